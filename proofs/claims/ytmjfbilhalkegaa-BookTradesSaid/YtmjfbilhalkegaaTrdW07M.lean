/- BookTrades, walked: it returns true. Condition: the numbers fit their kinds. -/
import Derived.Test.YtmjfbilhalkegaaTrdP07M
import Derived.Test.YtmjfbilhalkegaaMgUncLaw0717
namespace Go.Proofs.Ytmjfbilhalkegaa
set_option linter.unusedVariables false
set_option linter.unusedSimpArgs false
open Go.RowKit Go.Deep

theorem ex_act {T : Array Value} {ds : List Deferred} {p : (Nat → Value) → Prop} {lit : (Nat → Value) → Array Value} (h1 : p (fun i => T.getD i undef)) (h2 : T = lit (fun i => T.getD i undef)) : ∃ u, p u ∧ (⟨T, ds⟩ : Act) = ⟨lit u, ds⟩ :=
  ⟨_, h1, by rw [← h2]⟩
theorem close_round {J I : Nat → Act → World → Prop} {n : Nat} {a : Act} {w : World} (hJ : ∀ k a w, I k a w → J k a w) (k : Nat) (hk : k < n) (h : I k a w) : Handed J n a w := Handed.intro k hk (hJ _ _ _ h)
theorem wp_gen' {P : Program} {c : Code} {Q : Exit → Act → World → Prop} {T : Array Value} {ds : List Deferred} {w : World} (lit : (Nat → Value) → Array Value) (hT : T = lit (fun i => T.getD i undef)) (h : ∀ u, c.wp P Q ⟨lit u, ds⟩ w) : c.wp P Q ⟨T, ds⟩ w := by rw [hT]; exact h _
theorem gn_flat (G : List Int) : G.map (Value.int .u64) = flat (fun i => #[.int .u64 (G.getD i 0)]) G.length := by
  have gen : ∀ k, k ≤ G.length → flat (fun i => #[.int .u64 (G.getD i 0)]) k = (G.take k).map (Value.int .u64) := fun k => by
    induction k with
    | zero => intro _; rfl
    | succ k ih =>
      intro hk
      have e : G.take (k + 1) = G.take k ++ [G.getD k 0] := by
        rw [List.take_add_one, List.getElem?_eq_getElem (by omega), List.getD_eq_getElem?_getD, List.getElem?_eq_getElem (by omega)]; rfl
      rw [e, List.map_append, ← ih (by omega)]
      rfl
  rw [gen _ (Nat.le_refl _), List.take_length]
/-- a row that was made behind the book stays -/
theorem own_kb {w w1 w' : World} {g gb gs base n c b0 : Nat} {lb ls la lc : List Od} {e : TypeId} {v : Value} {xs : List Value} (h1 : BkG w1 g gb gs base lb ls) (h : BkG w g gb gs base lb ls) (hb0 : w.heap.size ≤ b0) (hB : Below w.heap.size w w1) (hs : BkS w1 w' g gb gs base la lc) (ho : w1.ownsRow b0 e c v n xs) : w'.ownsRow b0 e c v n xs :=
  own_sameT ho (fun q A eq hq => keep_box h hB (by have := (ho.lt q eq).1; omega) hq hs)
/-- a loop that sums up -/
def TREL (S : Nat → Int) (n : Nat) (w : World) (gh : Nat) (v vi : Value) (wr : World) : Prop := ∃ i : Nat, i ≤ n ∧ gh = n - i ∧ vi = .int .i64 i ∧ v = .int .i64 (S i) ∧ Below w.heap.size w wr
set_option maxRecDepth 100000 in
set_option maxHeartbeats 8000000 in
theorem trades07_walk (a : Option Addr) (n cap : Nat) (L : Nat → Array Value) (A : Array Value) (kk : Int) (w : World) (hL : ∀ i, IsOp (L i)) (hR : RowsC w 7 a n L) (hn : n ≤ cap) (hc : cap ≤ 9223372036854775807) (hA : IsOrd A) :
    Calls Try.prog 4 #[.slice a n cap, .agg A, .int .u8 kk] w fun e w' => e = .returned (.bool true) ∧ Below w.heap.size w w' := by
  have hpe : ∀ (w : World) (g : Nat), (binOp .eql 23 (.pointer (some ⟨g, 0, none⟩)) (.pointer none)).run Try.prog w = .ok (.bool false) w := fun _ _ => by kernel_rfl
  have hpn : ∀ (w : World) (g : Nat), (binOp .neq 23 (.pointer (some ⟨g, 0, none⟩)) (.pointer none)).run Try.prog w = .ok (.bool true) w := fun _ _ => by kernel_rfl
  have HL := Lib.hid hL
  have HR := Lib.hid hR
  have hAo : oa (ox A) = A := oa_ox hA
  have hOk : OkO (ox A) := ox_ok hA
  obtain ⟨o, ho⟩ : ∃ o, o = ox A := ⟨_, rfl⟩
  rw [← ho] at hAo hOk
  subst hAo
  have HOO := Lib.hid hOk
  clear ho hA hL hR hOk
  have hob := below_new w (Obj.cells (oa o) 30)
  have hox := heap_alloc_new w (Obj.cells (oa o) 30)
  have hobs : (w.alloc (Obj.cells (oa o) 30)).heap.size = w.heap.size + 1 := by simp
  by_cases hlen : 100 < n
  · have hlen2 : (100 : Int) < (n : Int) := by omega
    go_enter Try.func4, Try.ntmps4
    go_wp2_with (first | (go_at_call 9; (with_reducible refine (bnew_any _).mono ?_); rintro e w1 ⟨g, gb, gs, rfl, hB, hb⟩; have HB := Lib.hid hb; clear hB hb) | (go_at_call 10; (with_reducible refine (known07 _).mono ?_); rintro e w5 ⟨rfl, hb5⟩))
    go_ret
    exact ⟨rfl, below_then (below_then hob HB.out) hb5⟩
  · have hlen2 : ¬ (100 : Int) < (n : Int) := by omega
    have hn150 : (n : Int) ≤ 100 := by omega
    go_enter Try.func4, Try.ntmps4
    go_wp2_with ((go_at_call 9; (with_reducible refine (bnew_any _).mono ?_); rintro e w1 ⟨g, gb, gs, rfl, hB, hb⟩; have HB1 := Lib.hid (And.intro hB hb); clear hB hb))
    obtain ⟨wb, hwb⟩ : ∃ wb, wb = w.alloc (Obj.cells (oa o) 30) := ⟨_, rfl⟩
    rw [← hwb] at hob hox hobs HB1
    clear hwb
    have HBO := Lib.hid hob
    have HOX := Lib.hid hox
    clear hob hox
    go_loopg [39] n (fun gh vi wx => ∃ (i : Nat) (lb ls : List Od), i ≤ n ∧ gh = n - i ∧ vi = .int .i64 i ∧ BkG wx g gb gs wb.heap.size lb ls ∧ BiX true lb ls ∧ Below wb.heap.size wb wx)
    case atStart => exact ⟨0, [], [], by omega, by omega, rfl, HB1.out.1, bi_new, HB1.out.2⟩
    case round =>
      obtain ⟨i, lb, ls, hi, rfl, rfl, hbk, hbi, hb⟩ := hrel
      have HK := Lib.hid hbk
      have HI := Lib.hid hbi
      have HB := Lib.hid hb
      clear hbk hbi hb HB1
      by_cases hi : i < n
      · have hii : (i : Int) < (n : Int) := by omega
        obtain ⟨g2, off2, A2, t2, fr2, rfl, hg2, hn2, hx2⟩ := (HR.out.kept (below_then HBO.out HB.out)) i hi
        have HP := Lib.hid (play_any (L i) (HL.out i) HK.out HI.out)
        go_wp2_with (first | ((with_reducible refine at_load 33 ?_); refine wpList_load_part rfl 33 _ rfl (g2) (off2 + i * 7) rfl _ (A2) _ _ 7 (hg2) Try.underlying33 rfl (by kernel_rfl) (hn2) (L i) (hx2) ?_) | (go_at_call 11; (with_reducible refine (HP.out).mono ?_); rintro e w3 ⟨⟨v3, rfl⟩, hs3⟩; have HS := Lib.hid hs3; have HI3 := Lib.hid (show BiX true (opF (L i) lb ls).1 (opF (L i) lb ls).2 from bi_ply HI.out); clear hs3))
        go_roundg (n - (i + 1))
        case measure => omega
        case rel => exact ⟨i + 1, _, _, by omega, rfl, by go_num, HS.out.bk, HI3.out, HB.out.trans HS.out.be⟩
      · obtain rfl : i = n := by omega
        have hxx := Ytmjfbilhalkegaa.kept HB.out HOX.out
        have hwr : wb.heap.size ≤ wr.heap.size := HB.out.size
        have HEX := Lib.hid (extract_all (show (oa o).size = 5 from rfl))
        have HA5 := Lib.hid (show (oa o).size = 5 from rfl)
        have xa1 : (oa o)[1]? = some (.int .u32 o.a) := rfl
        have xa2 : (oa o)[2]? = some (.bool o.b) := rfl
        have xa3 : (oa o)[3]? = some (.int .i64 o.p) := rfl
        have xa4 : (oa o)[4]? = some (.int .i64 o.q) := rfl
        have HPa := Lib.hid (fun (w' : World) (g9 gb9 gs9 b9 : Nat) (h : BkG w' g9 gb9 gs9 b9 lb ls) => place_any o kk h HI.out HOO.out)
        have HIA := Lib.hid (bi_plc (o := o) (k := kk) HI.out)
        have HOKL := Lib.hid (fun h => trd_plc (o := o) (k := kk) HI.out h)
        have HNO := Lib.hid (fun (h : (plcF o kk lb ls).er ≠ 0) => (show (plcF o kk lb ls).lb = lb ∧ (plcF o kk lb ls).ls = ls ∧ (plcF o kk lb ls).tr = [] ∧ (plcF o kk lb ls).gn = [] ∧ (plcF o kk lb ls).fl = 0 ∧ (plcF o kk lb ls).lf = 0 from by have := plc_no h; rw [this]; exact ⟨rfl, rfl, rfl, rfl, rfl, rfl⟩))
        have hlen9 := bi_len HI.out
        have HOR := Lib.hid (all_ord HK.out)
        generalize hA1 : plcF o kk lb ls = A1 at *
        generalize hOA : oa o = OA at *
        have HAE := Lib.hid (And.intro hA1 hOA)
        clear hA1 hOA
        go_upto_region 9 with fail
        refine wp_gen (fun u => #[u 0, u 1, .int .u8 kk, u 3, .pointer (some ⟨w.heap.size, 0, none⟩), u 5, u 6, .pointer (some ⟨g, 0, none⟩), u 8, u 9, u 10, u 11, u 12, u 13, u 14, u 15, u 16, u 17, u 18, u 19, u 20, u 21, u 22, u 23, u 24, u 25, u 26, u 27, u 28, u 29, u 30, u 31, u 32, u 33, u 34, u 35, u 36, u 37, u 38, u 39, u 40, u 41, u 42, u 43, u 44, u 45, u 46, u 47, u 48, u 49, u 50, u 51, u 52, u 53, u 54, u 55, u 56, u 57, u 58, u 59, u 60, u 61, u 62, u 63, u 64, u 65, u 66, u 67, u 68, u 69, u 70, u 71, u 72, u 73, u 74, u 75, u 76, u 77, u 78, u 79, u 80, u 81, u 82, u 83, u 84, u 85, u 86, u 87, u 88, u 89, u 90, u 91, u 92, u 93, u 94, u 95, u 96, u 97, u 98, u 99, u 100, u 101, u 102, u 103, u 104, u 105, u 106, u 107, u 108, u 109, u 110, u 111, u 112, u 113, u 114, u 115, u 116, u 117, u 118, u 119, u 120, u 121, u 122, u 123, u 124, u 125, u 126, u 127, u 128, u 129, u 130, u 131, u 132, u 133, u 134, u 135, u 136, u 137, u 138, u 139, u 140, u 141, u 142, u 143, u 144, u 145, u 146, u 147, u 148, u 149, u 150, u 151, u 152, u 153, u 154, u 155, u 156, u 157, u 158, u 159, u 160, u 161, u 162, u 163, u 164, u 165, u 166, u 167, u 168, u 169, u 170, u 171, u 172, u 173, u 174, u 175, u 176, u 177, u 178, u 179, u 180, u 181, u 182, u 183, u 184, u 185, u 186, u 187, u 188, u 189, u 190, u 191, u 192, u 193, u 194, u 195, u 196, u 197, u 198, u 199, u 200, u 201, u 202, u 203, u 204, u 205, u 206, u 207, u 208, u 209, u 210, u 211, u 212, u 213, u 214, u 215, u 216, u 217, u 218, u 219, u 220, u 221, u 222, u 223, u 224, u 225, u 226, u 227, u 228, u 229, u 230, u 231, u 232, u 233, u 234, u 235, u 236, u 237, u 238, u 239, u 240, u 241, u 242, u 243, u 244, u 245, u 246, u 247, u 248, u 249, u 250, u 251, u 252, u 253, u 254, u 255, u 256, u 257, u 258, u 259, u 260, u 261, u 262, u 263, u 264, u 265, u 266, u 267, u 268, u 269, u 270, u 271, u 272, u 273, u 274, u 275, u 276, u 277, u 278, u 279, u 280, u 281, u 282, u 283, u 284, u 285, u 286]) (by rfl) (fun u => ?_)
        go_upto_region 10 with ((go_at_call 13; (with_reducible refine ((orders_in HK.out hlen9)).mono ?_); rintro e w8 ⟨⟨v8, rfl, ho8⟩, hb8⟩; obtain ⟨a8, c8, rfl, hR8, _⟩ := own_rows (c := 5) (fun i => (HOR.out i).size) ho8; rw [List.length_append] at hR8; have HK8 := Lib.hid (HK.out.kept hb8); have HB8 := Lib.hid hb8; have HR8 := Lib.hid hR8; have hxx8 := Ytmjfbilhalkegaa.kept hb8 hxx; have HO8 := Lib.hid ho8; clear hb8 hR8 ho8))
        go_upto_region 11 with (first | ((with_reducible refine at_load 30 ?_); refine wpList_load_part rfl 30 _ rfl (w.heap.size) (0) rfl _ (OA) _ _ 5 (hxx8) Try.underlying30 rfl (by kernel_rfl) (by rw [HA5.out]; omega) (OA) (HEX.out) ?_) | (go_at_call 14; (with_reducible refine ((HPa.out _ _ _ _ _ HK8.out)).mono ?_); rintro e w3 hpa; obtain ⟨vt, vg, rfl, ht, hg⟩ := hpa.ex; obtain ⟨av, ac, rfl, hT, _⟩ := own_rows (c := 4) (fun i => rfl) ht; rw [gn_flat] at hg; obtain ⟨bv, bc, rfl, hGr, _⟩ := own_rows (c := 1) (fun i => rfl) hg; have HS3 := Lib.hid hpa.bs; have HT1 := Lib.hid hT; have HG1 := Lib.hid hGr; clear ht hg hpa hT hGr) | ((with_reducible refine at_alloc 41 ?_); refine wpList_alloc_named rfl 41 rfl (pl0) (by kernel_rfl) ?_) | ((with_reducible refine at_store 41 ?_); refine wpList_store_new rfl 41 _ _ rfl (#[.slice av A1.tr.length ac, .slice bv A1.gn.length bc, .int .i64 A1.fl, .int .i64 A1.lf]) _ _ _ rfl (by simp) rfl (by kernel_rfl) (by rfl) (pl_all) ?_))
        have hsz8 := HB8.out.size
        have hxx3 := (HS3.out.be.block _ (by omega)).trans hxx8
        have HR83 := Lib.hid (own_kb HK8.out HK.out (Nat.le_refl _) HB8.out HS3.out HO8.out)
        have HNB := Lib.hid (below_new w3 (Obj.cells #[.slice av A1.tr.length ac, .slice bv A1.gn.length bc, .int .i64 A1.fl, .int .i64 A1.lf] 41))
        have hp1 := heap_alloc_new w3 (Obj.cells #[.slice av A1.tr.length ac, .slice bv A1.gn.length bc, .int .i64 A1.fl, .int .i64 A1.lf] 41)
        have hxx4 := heap_up (o := (Obj.cells #[.slice av A1.tr.length ac, .slice bv A1.gn.length bc, .int .i64 A1.fl, .int .i64 A1.lf] 41)) hxx3
        have HK4 := Lib.hid (HS3.out.bk.kept HNB.out)
        have HT14 := Lib.hid (rowsT_kept HT1.out HNB.out)
        have HG14 := Lib.hid (rowsT_kept HG1.out HNB.out)
        have HO84 := Lib.hid (own_below HNB.out HR83.out)
        have hw3s : w.heap.size < w3.heap.size := by have := HS3.out.be.size; omega
        have HBW4 := Lib.hid (show Below w.heap.size w (w3.alloc (Obj.cells #[.slice av A1.tr.length ac, .slice bv A1.gn.length bc, .int .i64 A1.fl, .int .i64 A1.lf] 41)) from (((HBO.out.trans (HB.out.mono (by omega))).trans (HB8.out.mono (by omega))).trans (HS3.out.be.mono (by omega))).trans (HNB.out.mono (by omega)))
        obtain ⟨p1, hp1e⟩ : ∃ p1, p1 = w3.heap.size := ⟨_, rfl⟩
        obtain ⟨w4, hw4⟩ : ∃ w4, w4 = w3.alloc (Obj.cells #[.slice av A1.tr.length ac, .slice bv A1.gn.length bc, .int .i64 A1.fl, .int .i64 A1.lf] 41) := ⟨_, rfl⟩
        rw [← hw4] at HNB hp1 hxx4 HK4 HT14 HG14 HO84 HBW4 ⊢
        rw [← hp1e] at hp1 hw3s ⊢
        clear hw4 hp1e
        have hlen8 := bi_len HIA.out
        go_upto_region 12 with ((go_at_call 13; (with_reducible refine ((orders_in HK4.out hlen8)).mono ?_); rintro e w9 ⟨⟨v9, rfl, ho9⟩, hb9⟩; obtain ⟨a9, c9, rfl, hR9, _⟩ := own_rows (c := 5) (fun i => (all_ord HK4.out i).size) ho9; rw [List.length_append] at hR9; have HB9 := Lib.hid hb9; have HR9w := Lib.hid (rowsT_C hR9); have HR9T := Lib.hid hR9; clear hb9 hR9 ho9))
        have HOR9 := Lib.hid (all_ord HK4.out)
        have HP1w := Lib.hid (Ytmjfbilhalkegaa.kept HB9.out hp1)
        have HXXw := Lib.hid (Ytmjfbilhalkegaa.kept HB9.out hxx4)
        have HTw := Lib.hid (rowsT_C (rowsT_kept HT14.out HB9.out))
        have HGw := Lib.hid (rowsT_C (rowsT_kept HG14.out HB9.out))
        have HO89 := Lib.hid (own_below HB9.out HO84.out)
        have HR8T := Lib.hid (show RowsT w9 30 5 a8 (lb.length + ls.length) (fun i => oa (od (lb ++ ls) i)) from by
          obtain ⟨a7, c7, e7, h7, _⟩ := own_rows (c := 5) (fun i => (HOR.out i).size) HO89.out
          injection e7 with e7 e7b e7c
          rw [List.length_append] at h7
          rw [e7]; exact h7)
        have HR8w := Lib.hid (rowsT_C HR8T.out)
        have HBW := Lib.hid (HBW4.out.trans (HB9.out.mono (by have := HBW4.out.size; omega)))
        rw [List.length_append] at hlen9 hlen8
        have hc1 := cellF HP1w.out
        have hcx := cellF HXXw.out
        clear hp1 hxx4 hxx3 hxx8 hxx HT1 HT14 HG1 HG14 HR8 HO8 HR83 HO84 HO89 HK8 HK4 HK HPa HS3 HB8 HB9 HNB HBW4
        by_cases h0 : A1.er = 0
        · have h0b : (A1.er == 0) = true := by rw [h0]; rfl
          obtain ⟨_, ya1⟩ := Array.getElem?_eq_some_iff.1 xa1
          obtain ⟨_, ya2⟩ := Array.getElem?_eq_some_iff.1 xa2
          obtain ⟨_, ya3⟩ := Array.getElem?_eq_some_iff.1 xa3
          obtain ⟨_, ya4⟩ := Array.getElem?_eq_some_iff.1 xa4
          have HT := Lib.hid (HOKL.out h0)
          clear HOKL HNO
          generalize htr : A1.tr = TR at *
          generalize hgn : A1.gn = GN at *
          generalize hfl : A1.fl = fl at *
          generalize hlf : A1.lf = lf at *
          generalize hnt : TR.length = nt at *
          generalize hng : GN.length = ng at *
          generalize hnl : lb.length + ls.length = nl at *
          generalize hnn : A1.lb.length + A1.ls.length = nn at *
          have HQ := Lib.hid (And.intro htr (And.intro hgn (And.intro hfl (And.intro hlf (And.intro hnt (And.intro hng (And.intro hnl hnn)))))))
          clear htr hgn hfl hlf hnt hng hnl hnn
          have HTT := Lib.hid (show ∀ i, i < nt → 1 ≤ (trs TR i).q ∧ (trs TR i).q ≤ 1000000 ∧ (trs TR i).a ≠ o.a ∧ (o.b = true → (trs TR i).p ≤ o.p) ∧ (o.b = false → o.p ≤ (trs TR i).p) from fun i hi => by have := HT.out.t; rw [HQ.out.1, HQ.out.2.2.2.2.1] at this; exact this i hi)
          have HTS := Lib.hid (show ∀ i, i + 1 < nt → (o.b = true → (trs TR i).p ≤ (trs TR (i + 1)).p) ∧ (o.b = false → (trs TR (i + 1)).p ≤ (trs TR i).p) from fun i hi => by have := HT.out.s; rw [HQ.out.1, HQ.out.2.2.2.2.1] at this; exact this i hi)
          have HSUM := Lib.hid (show psum (fun i => (trs TR i).q) nt = fl from by have := HT.out.sum; rw [HQ.out.1, HQ.out.2.2.2.2.1, HQ.out.2.2.1] at this; exact this)
          have HGG := Lib.hid (show ∀ i, i < nl → ∀ k, k < ng → GN.getD k 0 = (od (lb ++ ls) i).n → (od (lb ++ ls) i).a = o.a ∧ (od (lb ++ ls) i).b ≠ o.b from fun i hi k hk => by have := HT.out.g; rw [HQ.out.2.1, HQ.out.2.2.2.2.2.1, List.length_append, HQ.out.2.2.2.2.2.2.1] at this; exact this i hi k hk)
          obtain ⟨G, hG⟩ := HT.out.ow
          rw [HQ.out.2.1, HQ.out.2.2.2.2.2.1, List.length_append, HQ.out.2.2.2.2.2.2.1, HQ.out.2.2.1] at hG
          have HGO := Lib.hid hG
          clear hG
          have HOW1 := Lib.hid (show lQ (own o.b A1.lb A1.ls) = lQ (own o.b lb ls) + lf from by have := HT.out.own1; rw [HQ.out.2.2.2.1] at this; exact this)
          have hle : fl + lf ≤ o.q := by have := HT.out.le; rw [HQ.out.2.2.1, HQ.out.2.2.2.1] at this; exact this
          have hnt100 : nt ≤ 100 := by have := HT.out.tl; rw [HQ.out.1, HQ.out.2.2.2.2.1] at this; exact this
          have hng100 : ng ≤ 100 := by have := HT.out.gl; rw [HQ.out.2.1, HQ.out.2.2.2.2.2.1] at this; exact this
          have hfl0 : 0 ≤ fl ∧ fl ≤ 1000000 := by have := HT.out.f0; rw [HQ.out.2.2.1] at this; exact this
          have hlf0 : 0 ≤ lf ∧ lf ≤ 1000000 := by have := HT.out.l0; rw [HQ.out.2.2.2.1] at this; exact this
          have HLQ1 := Lib.hid (lQ_bd HI.out.inv.gb)
          have HLQ2 := Lib.hid (lQ_bd HI.out.inv.gs)
          have HLQ3 := Lib.hid (lQ_bd HIA.out.inv.gb)
          have HLQ4 := Lib.hid (lQ_bd HIA.out.inv.gs)
          have HQD := Lib.hid (show ∀ i, psum (fun i => (trs TR i).q) (i + 1) = psum (fun i => (trs TR i).q) i + (trs TR i).q from fun i => rfl)
          have HPB := Lib.hid (show ∀ i, i ≤ nt → 0 ≤ psum (fun i => (trs TR i).q) i ∧ psum (fun i => (trs TR i).q) i ≤ (i : Int) * 1000000 from fun i hi => psum_bd (by omega) i (fun j hj => by have := HTT.out j (by omega); omega))
          obtain ⟨QS, hQS⟩ : ∃ QS, QS = psum (fun i => (trs TR i).q) := ⟨_, rfl⟩
          rw [← hQS] at HSUM HQD HPB
          have HQS0 := Lib.hid (show QS 0 = 0 from by rw [hQS]; rfl)
          clear hQS HT
          go_upto_region 24 with fail
          refine wp_gen (fun u => #[u 0, u 1, u 2, u 3, .pointer (some ⟨w.heap.size, 0, none⟩), u 5, u 6, u 7, u 8, .slice a8 nl c8, .pointer (some ⟨p1, 0, none⟩), u 11, .slice a9 nn c9, u 13, .int .i64 0, .int .i64 0, u 16, u 17, u 18, u 19, u 20, u 21, u 22, u 23, u 24, u 25, u 26, u 27, u 28, u 29, u 30, u 31, u 32, u 33, u 34, u 35, u 36, u 37, u 38, u 39, u 40, u 41, u 42, u 43, u 44, u 45, u 46, u 47, u 48, u 49, u 50, u 51, u 52, u 53, u 54, u 55, u 56, u 57, u 58, u 59, u 60, u 61, u 62, u 63, u 64, u 65, u 66, u 67, u 68, u 69, u 70, u 71, u 72, u 73, u 74, u 75, u 76, u 77, u 78, u 79, u 80, u 81, u 82, u 83, u 84, u 85, u 86, u 87, u 88, u 89, u 90, u 91, u 92, u 93, u 94, u 95, u 96, u 97, u 98, u 99, u 100, u 101, u 102, u 103, u 104, .int .i64 nt, .int .i64 0, u 107, u 108, u 109, u 110, u 111, u 112, u 113, u 114, u 115, u 116, u 117, u 118, u 119, u 120, u 121, u 122, u 123, u 124, u 125, u 126, u 127, u 128, u 129, u 130, u 131, u 132, u 133, u 134, u 135, u 136, u 137, u 138, u 139, u 140, u 141, u 142, u 143, u 144, u 145, u 146, u 147, u 148, u 149, u 150, u 151, u 152, u 153, u 154, u 155, u 156, u 157, u 158, u 159, u 160, u 161, u 162, u 163, u 164, u 165, u 166, u 167, u 168, u 169, u 170, u 171, u 172, u 173, u 174, u 175, u 176, u 177, u 178, u 179, u 180, u 181, u 182, u 183, u 184, u 185, u 186, u 187, u 188, u 189, u 190, u 191, u 192, u 193, u 194, u 195, u 196, u 197, u 198, u 199, u 200, u 201, u 202, u 203, u 204, u 205, u 206, u 207, u 208, u 209, u 210, u 211, u 212, u 213, u 214, u 215, u 216, u 217, u 218, u 219, u 220, u 221, u 222, u 223, u 224, u 225, u 226, u 227, u 228, u 229, u 230, u 231, u 232, u 233, u 234, u 235, u 236, u 237, u 238, u 239, u 240, u 241, u 242, u 243, u 244, u 245, u 246, u 247, u 248, u 249, u 250, u 251, u 252, u 253, u 254, u 255, u 256, u 257, u 258, u 259, u 260, u 261, u 262, u 263, u 264, u 265, u 266, u 267, u 268, u 269, u 270, u 271, u 272, u 273, u 274, u 275, u 276, u 277, u 278, u 279, u 280, u 281, u 282, u 283, u 284, u 285, u 286]) (by rfl) (fun u => ?_)
          go_wp2_with fail
          refine wp_loop_ghost_k (fun gh ac wx => ∃ (u : Nat → Value), TREL QS nt w9 gh (u 14) (u 106) wx ∧ ac = { tmps := #[u 0, u 1, u 2, u 3, .pointer (some ⟨w.heap.size, 0, none⟩), u 5, u 6, u 7, u 8, .slice a8 nl c8, .pointer (some ⟨p1, 0, none⟩), u 11, .slice a9 nn c9, u 13, u 14, .int .i64 0, u 16, u 17, u 18, u 19, u 20, u 21, u 22, u 23, u 24, u 25, u 26, u 27, u 28, u 29, u 30, u 31, u 32, u 33, u 34, u 35, u 36, u 37, u 38, u 39, u 40, u 41, u 42, u 43, u 44, u 45, u 46, u 47, u 48, u 49, u 50, u 51, u 52, u 53, u 54, u 55, u 56, u 57, u 58, u 59, u 60, u 61, u 62, u 63, u 64, u 65, u 66, u 67, u 68, u 69, u 70, u 71, u 72, u 73, u 74, u 75, u 76, u 77, u 78, u 79, u 80, u 81, u 82, u 83, u 84, u 85, u 86, u 87, u 88, u 89, u 90, u 91, u 92, u 93, u 94, u 95, u 96, u 97, u 98, u 99, u 100, u 101, u 102, u 103, u 104, .int .i64 nt, u 106, u 107, u 108, u 109, u 110, u 111, u 112, u 113, u 114, u 115, u 116, u 117, u 118, u 119, u 120, u 121, u 122, u 123, u 124, u 125, u 126, u 127, u 128, u 129, u 130, u 131, u 132, u 133, u 134, u 135, u 136, u 137, u 138, u 139, u 140, u 141, u 142, u 143, u 144, u 145, u 146, u 147, u 148, u 149, u 150, u 151, u 152, u 153, u 154, u 155, u 156, u 157, u 158, u 159, u 160, u 161, u 162, u 163, u 164, u 165, u 166, u 167, u 168, u 169, u 170, u 171, u 172, u 173, u 174, u 175, u 176, u 177, u 178, u 179, u 180, u 181, u 182, u 183, u 184, u 185, u 186, u 187, u 188, u 189, u 190, u 191, u 192, u 193, u 194, u 195, u 196, u 197, u 198, u 199, u 200, u 201, u 202, u 203, u 204, u 205, u 206, u 207, u 208, u 209, u 210, u 211, u 212, u 213, u 214, u 215, u 216, u 217, u 218, u 219, u 220, u 221, u 222, u 223, u 224, u 225, u 226, u 227, u 228, u 229, u 230, u 231, u 232, u 233, u 234, u 235, u 236, u 237, u 238, u 239, u 240, u 241, u 242, u 243, u 244, u 245, u 246, u 247, u 248, u 249, u 250, u 251, u 252, u 253, u 254, u 255, u 256, u 257, u 258, u 259, u 260, u 261, u 262, u 263, u 264, u 265, u 266, u 267, u 268, u 269, u 270, u 271, u 272, u 273, u 274, u 275, u 276, u 277, u 278, u 279, u 280, u 281, u 282, u 283, u 284, u 285, u 286], defers := [] }) nt ?_ ?_
          · exact ex_act ⟨0, by omega, by omega, rfl, by rw [HQS0.out]; rfl, Below.refl _ _⟩ (by rfl)
          · rintro gh ac wr3 ⟨u3, ⟨i, hi, rfl, e106, e14, hb⟩, rfl⟩ J3 K3 hJ3 hK3
            rw [e106, e14]
            have HBX := Lib.hid hb
            have HJ3 := Lib.hid hJ3
            clear hb e106 e14 hJ3
            by_cases hlt : i < nt
            · skip
              have hlti : (i : Int) < (nt : Int) := by omega
              obtain ⟨tq1, tq2, ta1, tp1, tp2⟩ := HTT.out i hlt
              have HS1 := Lib.hid (fun h : i + 1 < nt => HTS.out i h)
              obtain ⟨gT, oT, CT, tT, fT, rfl, hgT, hcT⟩ := rowsC_one (HTw.out.kept HBX.out) (by omega) (fun i => rfl)
              have hbn := below_new wr3 (Obj.cells (ta (trs TR i)) 46)
              have HBN := Lib.hid hbn
              obtain ⟨w7, hw7⟩ : ∃ w7, w7 = wr3.alloc (Obj.cells (ta (trs TR i)) 46) := ⟨_, rfl⟩
              have hT7 := heap_alloc_new wr3 (Obj.cells (ta (trs TR i)) 46)
              have hP7 := Ytmjfbilhalkegaa.kept hbn (Ytmjfbilhalkegaa.kept HBX.out HP1w.out)
              have hX7 := Ytmjfbilhalkegaa.kept hbn (Ytmjfbilhalkegaa.kept HBX.out HXXw.out)
              have hg7 := Ytmjfbilhalkegaa.kept hbn hgT
              have HPB7 := Lib.hid hP7
              have HXB7 := Lib.hid hX7
              have HTB7 := Lib.hid hT7
              have HGB7 := Lib.hid hg7
              have ct := cellF hT7
              have cp := cellF hP7
              have cx := cellF hX7
              have cp0 := cellF (Ytmjfbilhalkegaa.kept HBX.out HP1w.out)
              have HEXT := Lib.hid (show CT.extract (oT + i * 4) (oT + i * 4 + 4) = ta (trs TR i) from by
                obtain ⟨g8, o8, C8, t8, f8, e8, h8, s8, x8⟩ := (HTw.out.kept HBX.out) i hlt
                injection e8 with e8; injection e8 with e8 e8b
                subst e8 e8b
                rw [hgT] at h8; injection h8 with h8; injection h8 with h8
                subst h8
                exact x8)
              have hsT : oT + i * 4 + 4 ≤ CT.size := by
                obtain ⟨g8, o8, C8, t8, f8, e8, h8, s8, x8⟩ := (HTw.out.kept HBX.out) i hlt
                injection e8 with e8; injection e8 with e8 e8b
                subst e8 e8b
                rw [hgT] at h8; injection h8 with h8; injection h8 with h8
                subst h8
                exact s8
              have z0 : (ta (trs TR i))[0]? = some (.int .i64 (trs TR i).p) := rfl
              have z1 : (ta (trs TR i))[1]? = some (.int .i64 (trs TR i).q) := rfl
              have z3 : (ta (trs TR i))[3]? = some (.int .u32 (trs TR i).a) := rfl
              obtain ⟨_, v0⟩ := Array.getElem?_eq_some_iff.1 z0
              obtain ⟨_, v1⟩ := Array.getElem?_eq_some_iff.1 z1
              obtain ⟨_, v3⟩ := Array.getElem?_eq_some_iff.1 z3
              have HZS := Lib.hid (show (ta (trs TR i)).size = 4 from rfl)
              have HZA := Lib.hid (ta_all (trs TR i))
              have hb1 := HPB.out i hi
              have hwr : IntKind.i64.wrap (QS i + (trs TR i).q) = QS (i + 1) := by
                rw [IntKind.wrap_i64, HQD.out i]
                have h2 : (i : Int) ≤ 100 := by omega
                omega
              have HPV := Lib.hid (fun (j : Nat) (hj : i = j + 1) => show CT[oT + j * 4 + 0]? = some (.int .i64 (trs TR j).p) ∧ (o.b = true → (trs TR j).p ≤ (trs TR i).p) ∧ (o.b = false → (trs TR i).p ≤ (trs TR j).p) from by
                subst hj
                exact ⟨hcT j (by omega) 0 (by omega), HTS.out j hlt⟩)
              have HB7 := Lib.hid (show Below w9.heap.size w9 (wr3.alloc (Obj.cells (ta (trs TR i)) 46)) from below_then HBX.out hbn)
              clear hbn hT7 hP7 hX7 hg7 hcT
              generalize hTAE : ta (trs TR i) = TA at *
              have HTAE := Lib.hid hTAE
              clear hTAE
              generalize (trs TR i).p = tp at *
              generalize (trs TR i).q = tq at *
              generalize (trs TR i).a = tac at *
              generalize o.a = oac at *
              generalize o.p = op at *
              have n1 : ¬ tq < 1 := by omega
              have n2 : (tac == oac) = false := beq_eq_false_iff_ne.2 ta1
              generalize QS i = Qi at *
              generalize hQn : QS (i + 1) = Qn at *
              have HQn := Lib.hid hQn
              clear hQn
              have HQN := Lib.hid tq2
              clear tq1 tq2 ta1 hb1
              generalize hobE : o.b = ob at *
              have HOBE := Lib.hid hobE
              clear hobE
              cases ob
              · have n3 : ¬ tp < op := by have := tp2 rfl; omega
                clear tp1 tp2
                go_upto_region 29 with (first | ((with_reducible refine at_load 46 ?_); refine wpList_load_part rfl 46 _ rfl (gT) (oT + i * 4) rfl _ (CT) _ _ 4 (hgT) Try.underlying46 rfl (by kernel_rfl) (hsT) (TA) (HEXT.out) ?_) | ((with_reducible refine at_alloc 46 ?_); refine wpList_alloc_named rfl 46 rfl (#[.int .i64 0, .int .i64 0, .int .u64 0, .int .u32 0]) (by kernel_rfl) ?_) | ((with_reducible refine at_store 46 ?_); refine wpList_store_new rfl 46 _ _ rfl (TA) _ _ _ rfl (by simp) rfl (by rw [HZS.out]; kernel_rfl) (by rw [HZS.out]; rfl) (HZA.out) ?_))
                by_cases hi0 : i = 0
                · subst hi0
                  refine wp_region_below (by kernel_rfl) (by kernel_rfl) ?_
                  repeat (first | ((with_reducible apply q_skip); (case hw => rfl); (try simp only [Act.put, List.setIfInBounds_toArray, List.set_cons_zero, List.set_cons_succ])) | ((with_reducible apply q_val); (case hw => rfl); (case hv => intro wq hbq; have hcq := cellF (Ytmjfbilhalkegaa.kept hbq HPB7.out); have hcr := cellF (Ytmjfbilhalkegaa.kept hbq HXB7.out); have hcs := cellF (Ytmjfbilhalkegaa.kept hbq HTB7.out); have hct := cellF (Ytmjfbilhalkegaa.kept hbq HGB7.out); go_simp; try rfl; try omega); (try simp only [Act.put, List.setIfInBounds_toArray, List.set_cons_zero, List.set_cons_succ])))
                  refine q_nil ?_
                  intro w4q hb4
                  have HB4 := Lib.hid (below_then HB7.out hb4)
                  have cq4 := cellF (Ytmjfbilhalkegaa.kept hb4 HTB7.out)
                  clear hb4
                  go_wp2
                  exact close_round HJ3.out (nt - (0 + 1)) (by omega) (ex_act ⟨0 + 1, by omega, rfl, by simp, by rw [HQn.out]; rfl, HB4.out⟩ (by rfl))
                · obtain ⟨j, hij⟩ : ∃ j, i = j + 1 := ⟨i - 1, by omega⟩
                  obtain ⟨cj, _, pj⟩ := HPV.out j hij
                  have pj := pj rfl
                  rw [Nat.add_zero] at cj
                  obtain ⟨_, cj2⟩ := Array.getElem?_eq_some_iff.1 cj
                  have n4 : ¬ (trs TR j).p < tp := by omega
                  generalize (trs TR j).p = tpj at *
                  clear pj
                  have ci : ((i : Int) > 0) := by omega
                  have ci2 : 0 < i := by omega
                  have hix : IntKind.i64.wrap ((i : Int) - 1) = (j : Int) := by rw [IntKind.wrap_i64]; omega
                  have hix2 : IntKind.i64.wrap (j : Int) = (j : Int) := by rw [IntKind.wrap_i64]; omega
                  have hjn : (j : Int) < (nt : Int) := by omega
                  refine wp_region_below (by kernel_rfl) (by kernel_rfl) ?_
                  repeat (first | ((with_reducible apply q_skip); (case hw => rfl); (try simp only [Act.put, List.setIfInBounds_toArray, List.set_cons_zero, List.set_cons_succ])) | ((with_reducible apply q_val); (case hw => rfl); (case hv => intro wq hbq; have hcq := cellF (Ytmjfbilhalkegaa.kept hbq HPB7.out); have hcr := cellF (Ytmjfbilhalkegaa.kept hbq HXB7.out); have hcs := cellF (Ytmjfbilhalkegaa.kept hbq HTB7.out); have hct := cellF (Ytmjfbilhalkegaa.kept hbq HGB7.out); go_simp; try rfl; try omega); (try simp only [Act.put, List.setIfInBounds_toArray, List.set_cons_zero, List.set_cons_succ])))
                  refine q_nil ?_
                  intro w4q hb4
                  have HB4 := Lib.hid (below_then HB7.out hb4)
                  have cq4 := cellF (Ytmjfbilhalkegaa.kept hb4 HTB7.out)
                  clear hb4
                  go_wp2
                  exact close_round HJ3.out (nt - (i + 1)) (by omega) (ex_act ⟨i + 1, by omega, rfl, by simp <;> omega, by rw [HQn.out]; rfl, HB4.out⟩ (by rfl))
              · have n3 : ¬ op < tp := by have := tp1 rfl; omega
                clear tp1 tp2
                go_upto_region 29 with (first | ((with_reducible refine at_load 46 ?_); refine wpList_load_part rfl 46 _ rfl (gT) (oT + i * 4) rfl _ (CT) _ _ 4 (hgT) Try.underlying46 rfl (by kernel_rfl) (hsT) (TA) (HEXT.out) ?_) | ((with_reducible refine at_alloc 46 ?_); refine wpList_alloc_named rfl 46 rfl (#[.int .i64 0, .int .i64 0, .int .u64 0, .int .u32 0]) (by kernel_rfl) ?_) | ((with_reducible refine at_store 46 ?_); refine wpList_store_new rfl 46 _ _ rfl (TA) _ _ _ rfl (by simp) rfl (by rw [HZS.out]; kernel_rfl) (by rw [HZS.out]; rfl) (HZA.out) ?_))
                by_cases hi0 : i = 0
                · subst hi0
                  refine wp_region_below (by kernel_rfl) (by kernel_rfl) ?_
                  repeat (first | ((with_reducible apply q_skip); (case hw => rfl); (try simp only [Act.put, List.setIfInBounds_toArray, List.set_cons_zero, List.set_cons_succ])) | ((with_reducible apply q_val); (case hw => rfl); (case hv => intro wq hbq; have hcq := cellF (Ytmjfbilhalkegaa.kept hbq HPB7.out); have hcr := cellF (Ytmjfbilhalkegaa.kept hbq HXB7.out); have hcs := cellF (Ytmjfbilhalkegaa.kept hbq HTB7.out); have hct := cellF (Ytmjfbilhalkegaa.kept hbq HGB7.out); go_simp; try rfl; try omega); (try simp only [Act.put, List.setIfInBounds_toArray, List.set_cons_zero, List.set_cons_succ])))
                  refine q_nil ?_
                  intro w4q hb4
                  have HB4 := Lib.hid (below_then HB7.out hb4)
                  have cq4 := cellF (Ytmjfbilhalkegaa.kept hb4 HTB7.out)
                  clear hb4
                  go_wp2
                  exact close_round HJ3.out (nt - (0 + 1)) (by omega) (ex_act ⟨0 + 1, by omega, rfl, by simp, by rw [HQn.out]; rfl, HB4.out⟩ (by rfl))
                · obtain ⟨j, hij⟩ : ∃ j, i = j + 1 := ⟨i - 1, by omega⟩
                  obtain ⟨cj, pj, _⟩ := HPV.out j hij
                  have pj := pj rfl
                  rw [Nat.add_zero] at cj
                  obtain ⟨_, cj2⟩ := Array.getElem?_eq_some_iff.1 cj
                  have n4 : ¬ tp < (trs TR j).p := by omega
                  generalize (trs TR j).p = tpj at *
                  clear pj
                  have ci : ((i : Int) > 0) := by omega
                  have ci2 : 0 < i := by omega
                  have hix : IntKind.i64.wrap ((i : Int) - 1) = (j : Int) := by rw [IntKind.wrap_i64]; omega
                  have hix2 : IntKind.i64.wrap (j : Int) = (j : Int) := by rw [IntKind.wrap_i64]; omega
                  have hjn : (j : Int) < (nt : Int) := by omega
                  refine wp_region_below (by kernel_rfl) (by kernel_rfl) ?_
                  repeat (first | ((with_reducible apply q_skip); (case hw => rfl); (try simp only [Act.put, List.setIfInBounds_toArray, List.set_cons_zero, List.set_cons_succ])) | ((with_reducible apply q_val); (case hw => rfl); (case hv => intro wq hbq; have hcq := cellF (Ytmjfbilhalkegaa.kept hbq HPB7.out); have hcr := cellF (Ytmjfbilhalkegaa.kept hbq HXB7.out); have hcs := cellF (Ytmjfbilhalkegaa.kept hbq HTB7.out); have hct := cellF (Ytmjfbilhalkegaa.kept hbq HGB7.out); go_simp; try rfl; try omega); (try simp only [Act.put, List.setIfInBounds_toArray, List.set_cons_zero, List.set_cons_succ])))
                  refine q_nil ?_
                  intro w4q hb4
                  have HB4 := Lib.hid (below_then HB7.out hb4)
                  have cq4 := cellF (Ytmjfbilhalkegaa.kept hb4 HTB7.out)
                  clear hb4
                  go_wp2
                  exact close_round HJ3.out (nt - (i + 1)) (by omega) (ex_act ⟨i + 1, by omega, rfl, by simp <;> omega, by rw [HQn.out]; rfl, HB4.out⟩ (by rfl))
            · obtain rfl : i = nt := by omega
              rw [HSUM.out]
              have HGQ := Lib.hid (show ∀ i, i < nl → 1 ≤ (od (lb ++ ls) i).q ∧ (od (lb ++ ls) i).q ≤ 1000000 from fun i hi => (show Good (lb ++ ls) from fun x hx => by
                rcases List.mem_append.1 hx with hx | hx
                · exact HI.out.inv.gb x hx
                · exact HI.out.inv.gs x hx).q (od_in (by rw [List.length_append, HQ.out.2.2.2.2.2.2.1]; exact hi)))
              obtain ⟨IS, hIS⟩ : ∃ IS : Nat → Nat → Int, IS = fun i => psum (fun k => if GN.getD k 0 = (od (lb ++ ls) i).n then (od (lb ++ ls) i).q else 0) := ⟨_, rfl⟩
              obtain ⟨OS, hOS⟩ : ∃ OS : Nat → Int, OS = psum (fun i => IS i ng) := ⟨_, rfl⟩
              have HOG := Lib.hid (show OS nl = G from by rw [hOS, hIS]; exact HGO.out.1)
              have HOD := Lib.hid (show ∀ i, OS (i + 1) = OS i + IS i ng from fun i => by rw [hOS]; rfl)
              have HO0 := Lib.hid (show OS 0 = 0 from by rw [hOS]; rfl)
              have HI0 := Lib.hid (show ∀ i, IS i 0 = 0 from fun i => by rw [hIS]; rfl)
              have HID := Lib.hid (show ∀ i k, IS i (k + 1) = IS i k + (if GN.getD k 0 = (od (lb ++ ls) i).n then (od (lb ++ ls) i).q else 0) from fun i k => by rw [hIS]; rfl)
              have HIB := Lib.hid (show ∀ i, i < nl → ∀ k, 0 ≤ IS i k ∧ IS i k ≤ (k : Int) * 1000000 from fun i hi k => by
                rw [hIS]
                refine psum_bd (by omega) k (fun j hj => ?_)
                have := HGQ.out i hi
                split <;> omega)
              have HOB := Lib.hid (show ∀ i, i ≤ nl → 0 ≤ OS i ∧ OS i ≤ (i : Int) * 100000000 from fun i hi => by
                rw [hOS]
                refine psum_bd (by omega) i (fun j hj => ?_)
                have := HIB.out j (by omega) ng
                have h2 : (ng : Int) ≤ 100 := by omega
                omega)
              clear hIS hOS
              have cp0 := cellF (Ytmjfbilhalkegaa.kept HBX.out HP1w.out)
              go_upto_region 34 with fail
              refine wp_gen (fun u => #[u 0, u 1, u 2, u 3, .pointer (some ⟨w.heap.size, 0, none⟩), u 5, u 6, u 7, u 8, .slice a8 nl c8, .pointer (some ⟨p1, 0, none⟩), u 11, .slice a9 nn c9, u 13, .int .i64 fl, .int .i64 0, u 16, u 17, u 18, u 19, u 20, u 21, u 22, u 23, u 24, u 25, u 26, u 27, u 28, u 29, u 30, u 31, u 32, u 33, u 34, u 35, u 36, u 37, u 38, u 39, u 40, u 41, u 42, u 43, u 44, u 45, u 46, u 47, u 48, u 49, u 50, u 51, u 52, u 53, u 54, u 55, u 56, u 57, u 58, u 59, u 60, u 61, u 62, u 63, u 64, u 65, u 66, u 67, u 68, u 69, u 70, u 71, u 72, u 73, u 74, u 75, u 76, u 77, u 78, u 79, u 80, u 81, u 82, u 83, u 84, u 85, u 86, u 87, u 88, u 89, u 90, u 91, u 92, u 93, u 94, u 95, u 96, u 97, u 98, u 99, u 100, u 101, u 102, u 103, u 104, u 105, u 106, u 107, u 108, u 109, u 110, u 111, u 112, u 113, u 114, u 115, u 116, u 117, u 118, u 119, u 120, u 121, u 122, u 123, u 124, u 125, u 126, u 127, u 128, u 129, u 130, u 131, u 132, u 133, u 134, u 135, u 136, u 137, u 138, u 139, u 140, u 141, u 142, u 143, u 144, u 145, u 146, u 147, u 148, u 149, u 150, u 151, u 152, u 153, u 154, u 155, u 156, u 157, u 158, u 159, u 160, u 161, u 162, u 163, u 164, u 165, u 166, u 167, u 168, u 169, u 170, u 171, u 172, u 173, u 174, u 175, u 176, u 177, u 178, u 179, u 180, u 181, u 182, u 183, u 184, u 185, u 186, u 187, .int .i64 nl, .int .i64 0, u 190, u 191, u 192, u 193, u 194, u 195, u 196, u 197, u 198, u 199, u 200, u 201, u 202, u 203, u 204, u 205, u 206, u 207, u 208, u 209, u 210, u 211, u 212, u 213, u 214, u 215, u 216, u 217, u 218, u 219, u 220, u 221, u 222, u 223, u 224, u 225, u 226, u 227, u 228, u 229, u 230, u 231, u 232, u 233, u 234, u 235, u 236, u 237, u 238, u 239, u 240, u 241, u 242, u 243, u 244, u 245, u 246, u 247, u 248, u 249, u 250, u 251, u 252, u 253, u 254, u 255, u 256, u 257, u 258, u 259, u 260, u 261, u 262, u 263, u 264, u 265, u 266, u 267, u 268, u 269, u 270, u 271, u 272, u 273, u 274, u 275, u 276, u 277, u 278, u 279, u 280, u 281, u 282, u 283, u 284, u 285, u 286]) (by rfl) (fun u => ?_)
              go_wp2_with fail
              refine wp_loop_ghost_k (fun gh ac wx => ∃ (u : Nat → Value), TREL OS nl w9 gh (u 15) (u 189) wx ∧ ac = { tmps := #[u 0, u 1, u 2, u 3, .pointer (some ⟨w.heap.size, 0, none⟩), u 5, u 6, u 7, u 8, .slice a8 nl c8, .pointer (some ⟨p1, 0, none⟩), u 11, .slice a9 nn c9, u 13, .int .i64 fl, u 15, u 16, u 17, u 18, u 19, u 20, u 21, u 22, u 23, u 24, u 25, u 26, u 27, u 28, u 29, u 30, u 31, u 32, u 33, u 34, u 35, u 36, u 37, u 38, u 39, u 40, u 41, u 42, u 43, u 44, u 45, u 46, u 47, u 48, u 49, u 50, u 51, u 52, u 53, u 54, u 55, u 56, u 57, u 58, u 59, u 60, u 61, u 62, u 63, u 64, u 65, u 66, u 67, u 68, u 69, u 70, u 71, u 72, u 73, u 74, u 75, u 76, u 77, u 78, u 79, u 80, u 81, u 82, u 83, u 84, u 85, u 86, u 87, u 88, u 89, u 90, u 91, u 92, u 93, u 94, u 95, u 96, u 97, u 98, u 99, u 100, u 101, u 102, u 103, u 104, u 105, u 106, u 107, u 108, u 109, u 110, u 111, u 112, u 113, u 114, u 115, u 116, u 117, u 118, u 119, u 120, u 121, u 122, u 123, u 124, u 125, u 126, u 127, u 128, u 129, u 130, u 131, u 132, u 133, u 134, u 135, u 136, u 137, u 138, u 139, u 140, u 141, u 142, u 143, u 144, u 145, u 146, u 147, u 148, u 149, u 150, u 151, u 152, u 153, u 154, u 155, u 156, u 157, u 158, u 159, u 160, u 161, u 162, u 163, u 164, u 165, u 166, u 167, u 168, u 169, u 170, u 171, u 172, u 173, u 174, u 175, u 176, u 177, u 178, u 179, u 180, u 181, u 182, u 183, u 184, u 185, u 186, u 187, .int .i64 nl, u 189, u 190, u 191, u 192, u 193, u 194, u 195, u 196, u 197, u 198, u 199, u 200, u 201, u 202, u 203, u 204, u 205, u 206, u 207, u 208, u 209, u 210, u 211, u 212, u 213, u 214, u 215, u 216, u 217, u 218, u 219, u 220, u 221, u 222, u 223, u 224, u 225, u 226, u 227, u 228, u 229, u 230, u 231, u 232, u 233, u 234, u 235, u 236, u 237, u 238, u 239, u 240, u 241, u 242, u 243, u 244, u 245, u 246, u 247, u 248, u 249, u 250, u 251, u 252, u 253, u 254, u 255, u 256, u 257, u 258, u 259, u 260, u 261, u 262, u 263, u 264, u 265, u 266, u 267, u 268, u 269, u 270, u 271, u 272, u 273, u 274, u 275, u 276, u 277, u 278, u 279, u 280, u 281, u 282, u 283, u 284, u 285, u 286], defers := [] }) nl ?_ ?_
              · exact ex_act ⟨0, by omega, by omega, rfl, by rw [HO0.out]; rfl, HBX.out⟩ (by rfl)
              · clear HBX cp0
                rintro gh ac wr4 ⟨u4, ⟨j, hj, rfl, e189, e15, hb⟩, rfl⟩ J4 K4 hJ4 hK4
                rw [e189, e15]
                have HBX := Lib.hid hb
                have HJ4 := Lib.hid hJ4
                clear hb e189 e15 hJ4
                by_cases hlt : j < nl
                · skip
                  have hlti : (j : Int) < (nl : Int) := by omega
                  have cp0 := cellF (Ytmjfbilhalkegaa.kept HBX.out HP1w.out)
                  go_upto_region 37 with fail
                  refine wp_gen (fun u => #[u 0, u 1, u 2, u 3, .pointer (some ⟨w.heap.size, 0, none⟩), u 5, u 6, u 7, u 8, .slice a8 nl c8, .pointer (some ⟨p1, 0, none⟩), u 11, .slice a9 nn c9, u 13, .int .i64 fl, .int .i64 (OS j), u 16, u 17, .int .i64 j, u 19, u 20, u 21, u 22, u 23, u 24, u 25, u 26, u 27, u 28, u 29, u 30, u 31, u 32, u 33, u 34, u 35, u 36, u 37, u 38, u 39, u 40, u 41, u 42, u 43, u 44, u 45, u 46, u 47, u 48, u 49, u 50, u 51, u 52, u 53, u 54, u 55, u 56, u 57, u 58, u 59, u 60, u 61, u 62, u 63, u 64, u 65, u 66, u 67, u 68, u 69, u 70, u 71, u 72, u 73, u 74, u 75, u 76, u 77, u 78, u 79, u 80, u 81, u 82, u 83, u 84, u 85, u 86, u 87, u 88, u 89, u 90, u 91, u 92, u 93, u 94, u 95, u 96, u 97, u 98, u 99, u 100, u 101, u 102, u 103, u 104, u 105, u 106, u 107, u 108, u 109, u 110, u 111, u 112, u 113, u 114, u 115, u 116, u 117, u 118, u 119, u 120, u 121, u 122, u 123, u 124, u 125, u 126, u 127, u 128, u 129, u 130, u 131, u 132, u 133, u 134, u 135, u 136, u 137, u 138, u 139, u 140, u 141, u 142, u 143, u 144, u 145, u 146, u 147, u 148, u 149, u 150, u 151, u 152, u 153, u 154, u 155, u 156, u 157, u 158, u 159, u 160, u 161, u 162, u 163, u 164, u 165, u 166, u 167, u 168, u 169, u 170, u 171, u 172, u 173, u 174, u 175, u 176, u 177, u 178, u 179, u 180, u 181, u 182, u 183, u 184, u 185, u 186, u 187, .int .i64 nl, .int .i64 j, u 190, u 191, u 192, u 193, .int .i64 ng, .int .i64 0, u 196, u 197, u 198, u 199, u 200, u 201, u 202, u 203, u 204, u 205, u 206, u 207, u 208, u 209, u 210, u 211, u 212, u 213, u 214, u 215, u 216, u 217, u 218, u 219, u 220, u 221, u 222, u 223, u 224, u 225, u 226, u 227, u 228, u 229, u 230, u 231, u 232, u 233, u 234, u 235, u 236, u 237, u 238, u 239, u 240, u 241, u 242, u 243, u 244, u 245, u 246, u 247, u 248, u 249, u 250, u 251, u 252, u 253, u 254, u 255, u 256, u 257, u 258, u 259, u 260, u 261, u 262, u 263, u 264, u 265, u 266, u 267, u 268, u 269, u 270, u 271, u 272, u 273, u 274, u 275, u 276, u 277, u 278, u 279, u 280, u 281, u 282, u 283, u 284, u 285, u 286]) (by rfl) (fun u => ?_)
                  go_wp2_with fail
                  refine wp_loop_ghost_k (fun gh ac wx => ∃ (u : Nat → Value), TREL (fun k => OS j + IS j k) ng w9 gh (u 15) (u 195) wx ∧ ac = { tmps := #[u 0, u 1, u 2, u 3, .pointer (some ⟨w.heap.size, 0, none⟩), u 5, u 6, u 7, u 8, .slice a8 nl c8, .pointer (some ⟨p1, 0, none⟩), u 11, .slice a9 nn c9, u 13, .int .i64 fl, u 15, u 16, u 17, .int .i64 j, u 19, u 20, u 21, u 22, u 23, u 24, u 25, u 26, u 27, u 28, u 29, u 30, u 31, u 32, u 33, u 34, u 35, u 36, u 37, u 38, u 39, u 40, u 41, u 42, u 43, u 44, u 45, u 46, u 47, u 48, u 49, u 50, u 51, u 52, u 53, u 54, u 55, u 56, u 57, u 58, u 59, u 60, u 61, u 62, u 63, u 64, u 65, u 66, u 67, u 68, u 69, u 70, u 71, u 72, u 73, u 74, u 75, u 76, u 77, u 78, u 79, u 80, u 81, u 82, u 83, u 84, u 85, u 86, u 87, u 88, u 89, u 90, u 91, u 92, u 93, u 94, u 95, u 96, u 97, u 98, u 99, u 100, u 101, u 102, u 103, u 104, u 105, u 106, u 107, u 108, u 109, u 110, u 111, u 112, u 113, u 114, u 115, u 116, u 117, u 118, u 119, u 120, u 121, u 122, u 123, u 124, u 125, u 126, u 127, u 128, u 129, u 130, u 131, u 132, u 133, u 134, u 135, u 136, u 137, u 138, u 139, u 140, u 141, u 142, u 143, u 144, u 145, u 146, u 147, u 148, u 149, u 150, u 151, u 152, u 153, u 154, u 155, u 156, u 157, u 158, u 159, u 160, u 161, u 162, u 163, u 164, u 165, u 166, u 167, u 168, u 169, u 170, u 171, u 172, u 173, u 174, u 175, u 176, u 177, u 178, u 179, u 180, u 181, u 182, u 183, u 184, u 185, u 186, u 187, .int .i64 nl, .int .i64 j, u 190, u 191, u 192, u 193, .int .i64 ng, u 195, u 196, u 197, u 198, u 199, u 200, u 201, u 202, u 203, u 204, u 205, u 206, u 207, u 208, u 209, u 210, u 211, u 212, u 213, u 214, u 215, u 216, u 217, u 218, u 219, u 220, u 221, u 222, u 223, u 224, u 225, u 226, u 227, u 228, u 229, u 230, u 231, u 232, u 233, u 234, u 235, u 236, u 237, u 238, u 239, u 240, u 241, u 242, u 243, u 244, u 245, u 246, u 247, u 248, u 249, u 250, u 251, u 252, u 253, u 254, u 255, u 256, u 257, u 258, u 259, u 260, u 261, u 262, u 263, u 264, u 265, u 266, u 267, u 268, u 269, u 270, u 271, u 272, u 273, u 274, u 275, u 276, u 277, u 278, u 279, u 280, u 281, u 282, u 283, u 284, u 285, u 286], defers := [] }) ng ?_ ?_
                  · exact ex_act ⟨0, by omega, by omega, rfl, by rw [show (fun k => OS j + IS j k) 0 = OS j from by show OS j + IS j 0 = OS j; rw [HI0.out j, Int.add_zero]]; rfl, HBX.out⟩ (by rfl)
                  · rintro gh ac wr5 ⟨u5, ⟨k, hk, rfl, e195, e15, hb⟩, rfl⟩ J5 K5 hJ5 hK5
                    have e15b : u5 15 = .int .i64 (OS j + IS j k) := e15
                    rw [e195, e15b]
                    have HBX2 := Lib.hid hb
                    have HJ5 := Lib.hid hJ5
                    clear hb e195 e15 e15b hJ5 cp0
                    by_cases hlk : k < ng
                    · have hlki : (k : Int) < (ng : Int) := by omega
                      obtain ⟨gA, oA, CA, tA, fA, rfl, hgA, hcA⟩ := rowsC_one (HR8w.out.kept HBX2.out) (by omega) (fun i => (HOR.out i).size)
                      obtain ⟨gB, oB, CB, tB, fB, rfl, hgB, hcB⟩ := rowsC_one (HGw.out.kept HBX2.out) (by omega) (fun i => rfl)
                      have z0 : CA[oA + j * 5]? = some (.int .u64 (od (lb ++ ls) j).n) := by have := hcA j hlt 0 (by omega); rwa [Nat.add_zero] at this
                      have z1 : CA[oA + j * 5 + 1]? = some (.int .u32 (od (lb ++ ls) j).a) := hcA j hlt 1 (by omega)
                      have z2 : CA[oA + j * 5 + 2]? = some (.bool (od (lb ++ ls) j).b) := hcA j hlt 2 (by omega)
                      have z4 : CA[oA + j * 5 + 4]? = some (.int .i64 (od (lb ++ ls) j).q) := hcA j hlt 4 (by omega)
                      have z9 : CB[oB + k]? = some (.int .u64 (GN.getD k 0)) := by have := hcB k hlk 0 (by omega); rwa [Nat.add_zero, Nat.mul_one] at this
                      obtain ⟨_, y0⟩ := Array.getElem?_eq_some_iff.1 z0
                      obtain ⟨_, y1⟩ := Array.getElem?_eq_some_iff.1 z1
                      obtain ⟨_, y2⟩ := Array.getElem?_eq_some_iff.1 z2
                      obtain ⟨_, y4⟩ := Array.getElem?_eq_some_iff.1 z4
                      obtain ⟨_, y9⟩ := Array.getElem?_eq_some_iff.1 z9
                      have HAw := Lib.hid hgA
                      have HBw := Lib.hid hgB
                      have HPw := Lib.hid (Ytmjfbilhalkegaa.kept HBX2.out HP1w.out)
                      have HXw := Lib.hid (Ytmjfbilhalkegaa.kept HBX2.out HXXw.out)
                      have HGGk := Lib.hid (HGG.out j hlt k hlk)
                      have hqb := HGQ.out j hlt
                      have hb1 := HOB.out j hj
                      have hb2 := HIB.out j hlt k
                      have hd := HID.out j k
                      have hj200 : (j : Int) ≤ 1000 := by omega
                      have hk100 : (k : Int) ≤ 100 := by omega
                      clear hcA hcB hgA hgB
                      generalize (od (lb ++ ls) j).n = xn at *
                      generalize (od (lb ++ ls) j).a = xa at *
                      generalize (od (lb ++ ls) j).b = xb at *
                      generalize (od (lb ++ ls) j).q = xq at *
                      generalize GN.getD k 0 = gk at *
                      obtain ⟨VN, hVN⟩ : ∃ VN, VN = OS j + IS j (k + 1) := ⟨_, rfl⟩
                      generalize OS j = oj at *
                      generalize IS j k = ik at *
                      by_cases he : gk = xn
                      · obtain ⟨ha, hbb⟩ := HGGk.out he
                        rw [if_pos he] at hd
                        have hwv : IntKind.i64.wrap (oj + ik + xq) = VN := by rw [IntKind.wrap_i64]; omega
                        have HVN := Lib.hid hVN
                        have HBD := Lib.hid (And.intro hb1 (And.intro hb2 hqb))
                        clear hb1 hb2 hqb hd hVN
                        subst he
                        rw [ha] at z1 y1
                        clear ha
                        generalize o.a = oac at *
                        generalize o.b = ob at *
                        cases ob
                        · obtain rfl : xb = true := by simpa using hbb
                          clear hbb
                          go_upto_region 39 with fail
                          refine wp_region_below (by kernel_rfl) (by kernel_rfl) ?_
                          repeat (first | ((with_reducible apply q_skip); (case hw => rfl); (try simp only [Act.put, List.setIfInBounds_toArray, List.set_cons_zero, List.set_cons_succ])) | ((with_reducible apply q_val); (case hw => rfl); (case hv => intro wq hbq; have hcA := cellF (Ytmjfbilhalkegaa.kept hbq HAw.out); have hcB := cellF (Ytmjfbilhalkegaa.kept hbq HBw.out); have hcP := cellF (Ytmjfbilhalkegaa.kept hbq HPw.out); go_simp; try rfl; try omega); (try simp only [Act.put, List.setIfInBounds_toArray, List.set_cons_zero, List.set_cons_succ])))
                          refine q_nil ?_
                          intro w4q hb4
                          have HB4 := Lib.hid (below_then HBX2.out hb4)
                          have HAw2 := Lib.hid (Ytmjfbilhalkegaa.kept hb4 HAw.out)
                          have HXw2 := Lib.hid (Ytmjfbilhalkegaa.kept hb4 HXw.out)
                          have c44 := cellF (Ytmjfbilhalkegaa.kept hb4 HAw.out)
                          clear hb4
                          go_wp2
                          refine wp_region_below (by kernel_rfl) (by kernel_rfl) ?_
                          repeat (first | ((with_reducible apply q_skip); (case hw => rfl); (try simp only [Act.put, List.setIfInBounds_toArray, List.set_cons_zero, List.set_cons_succ])) | ((with_reducible apply q_val); (case hw => rfl); (case hv => intro wq hbq; have hcA := cellF (Ytmjfbilhalkegaa.kept hbq HAw2.out); have hcX := cellF (Ytmjfbilhalkegaa.kept hbq HXw2.out); go_simp; try rfl; try omega); (try simp only [Act.put, List.setIfInBounds_toArray, List.set_cons_zero, List.set_cons_succ])))
                          refine q_nil ?_
                          intro w4q hb4
                          have HB5 := Lib.hid (below_then HB4.out hb4)
                          have c45 := cellF (Ytmjfbilhalkegaa.kept hb4 HAw2.out)
                          clear hb4 c44
                          go_wp2
                          exact close_round HJ5.out (ng - (k + 1)) (by omega) (ex_act ⟨k + 1, by omega, rfl, by simp, by rw [show (fun k => oj + IS j k) (k + 1) = VN from HVN.out.symm]; rfl, HB5.out⟩ (by rfl))
                        · obtain rfl : xb = false := by simpa using hbb
                          clear hbb
                          go_upto_region 39 with fail
                          refine wp_region_below (by kernel_rfl) (by kernel_rfl) ?_
                          repeat (first | ((with_reducible apply q_skip); (case hw => rfl); (try simp only [Act.put, List.setIfInBounds_toArray, List.set_cons_zero, List.set_cons_succ])) | ((with_reducible apply q_val); (case hw => rfl); (case hv => intro wq hbq; have hcA := cellF (Ytmjfbilhalkegaa.kept hbq HAw.out); have hcB := cellF (Ytmjfbilhalkegaa.kept hbq HBw.out); have hcP := cellF (Ytmjfbilhalkegaa.kept hbq HPw.out); go_simp; try rfl; try omega); (try simp only [Act.put, List.setIfInBounds_toArray, List.set_cons_zero, List.set_cons_succ])))
                          refine q_nil ?_
                          intro w4q hb4
                          have HB4 := Lib.hid (below_then HBX2.out hb4)
                          have HAw2 := Lib.hid (Ytmjfbilhalkegaa.kept hb4 HAw.out)
                          have HXw2 := Lib.hid (Ytmjfbilhalkegaa.kept hb4 HXw.out)
                          have c44 := cellF (Ytmjfbilhalkegaa.kept hb4 HAw.out)
                          clear hb4
                          go_wp2
                          refine wp_region_below (by kernel_rfl) (by kernel_rfl) ?_
                          repeat (first | ((with_reducible apply q_skip); (case hw => rfl); (try simp only [Act.put, List.setIfInBounds_toArray, List.set_cons_zero, List.set_cons_succ])) | ((with_reducible apply q_val); (case hw => rfl); (case hv => intro wq hbq; have hcA := cellF (Ytmjfbilhalkegaa.kept hbq HAw2.out); have hcX := cellF (Ytmjfbilhalkegaa.kept hbq HXw2.out); go_simp; try rfl; try omega); (try simp only [Act.put, List.setIfInBounds_toArray, List.set_cons_zero, List.set_cons_succ])))
                          refine q_nil ?_
                          intro w4q hb4
                          have HB5 := Lib.hid (below_then HB4.out hb4)
                          have c45 := cellF (Ytmjfbilhalkegaa.kept hb4 HAw2.out)
                          clear hb4 c44
                          go_wp2
                          exact close_round HJ5.out (ng - (k + 1)) (by omega) (ex_act ⟨k + 1, by omega, rfl, by simp, by rw [show (fun k => oj + IS j k) (k + 1) = VN from HVN.out.symm]; rfl, HB5.out⟩ (by rfl))
                      · rw [if_neg he] at hd
                        have hne : (xn == gk) = false := beq_eq_false_iff_ne.2 (fun e => he e.symm)
                        have HVN := Lib.hid (show oj + ik = oj + IS j (k + 1) by omega)
                        have HBD := Lib.hid (And.intro hb1 (And.intro hb2 hqb))
                        clear hb1 hb2 hqb hd hVN
                        go_upto_region 39 with fail
                        refine wp_region_below (by kernel_rfl) (by kernel_rfl) ?_
                        repeat (first | ((with_reducible apply q_skip); (case hw => rfl); (try simp only [Act.put, List.setIfInBounds_toArray, List.set_cons_zero, List.set_cons_succ])) | ((with_reducible apply q_val); (case hw => rfl); (case hv => intro wq hbq; have hcA := cellF (Ytmjfbilhalkegaa.kept hbq HAw.out); have hcB := cellF (Ytmjfbilhalkegaa.kept hbq HBw.out); have hcP := cellF (Ytmjfbilhalkegaa.kept hbq HPw.out); go_simp; try rfl; try omega); (try simp only [Act.put, List.setIfInBounds_toArray, List.set_cons_zero, List.set_cons_succ])))
                        refine q_nil ?_
                        intro w4q hb4
                        have HB4 := Lib.hid (below_then HBX2.out hb4)
                        clear hb4
                        go_wp2
                        exact close_round HJ5.out (ng - (k + 1)) (by omega) (ex_act ⟨k + 1, by omega, rfl, by simp, by rw [show (fun k => oj + IS j k) (k + 1) = oj + ik from HVN.out.symm]; rfl, HB4.out⟩ (by rfl))
                    · obtain rfl : k = ng := by omega
                      have HVJ := Lib.hid (HOD.out j)
                      go_wp2
                      exact close_round HJ4.out (nl - (j + 1)) (by omega) (ex_act ⟨j + 1, by omega, rfl, by simp, by rw [HVJ.out]; rfl, HBX2.out⟩ (by rfl))
                · obtain rfl : j = nl := by omega
                  rw [HOG.out]
                  have hnlE : j = (lb ++ ls).length := by rw [List.length_append, HQ.out.2.2.2.2.2.2.1]
                  have hnnE : nn = (A1.lb ++ A1.ls).length := by rw [List.length_append, HQ.out.2.2.2.2.2.2.2]
                  have HE1 := Lib.hid hnlE
                  have HE2 := Lib.hid hnnE
                  clear hnlE hnnE
                  have HRA := Lib.hid (rowsT_kept HR8T.out HBX.out)
                  have HRB := Lib.hid (rowsT_kept HR9T.out HBX.out)
                  have HG1 := Lib.hid HGO.out.2
                  have HLN := Lib.hid (And.intro HI.out.inv.nb HI.out.inv.ns)
                  have HLM := Lib.hid (And.intro HIA.out.inv.nb HIA.out.inv.ns)
                  have cp0 := cellF (Ytmjfbilhalkegaa.kept HBX.out HP1w.out)
                  have cx0 := cellF (Ytmjfbilhalkegaa.kept HBX.out HXXw.out)
                  go_upto_region 47 with (first | (go_at_call 15; (with_reducible refine ((total_book HOR.out HI.out HE1.out HRA.out)).mono ?_); rintro e w5 ⟨rfl, rfl⟩) | (go_at_call 15; (with_reducible refine ((total_book HOR9.out HIA.out HE2.out HRB.out)).mono ?_); rintro e w5 ⟨rfl, rfl⟩))
                  have hB1 := HLQ1.out
                  have hB2 := HLQ2.out
                  have hB3 := HLQ3.out
                  have hB4 := HLQ4.out
                  have hN1 : (lb.length : Int) ≤ 100 := by have := HLN.out.1; omega
                  have hN2 : (ls.length : Int) ≤ 100 := by have := HLN.out.2; omega
                  have hN3 : (A1.lb.length : Int) ≤ 100 := by have := HLM.out.1; omega
                  have hN4 : (A1.ls.length : Int) ≤ 100 := by have := HLM.out.2; omega
                  obtain ⟨g1, g2, g3⟩ := HG1.out
                  have hW1 := HOW1.out
                  unfold own at hW1
                  unfold oth at g1
                  have hq9 : fl + lf ≤ o.q := hle
                  generalize o.b = ob at *
                  generalize o.q = oq at *
                  cases ob
                  · simp only [Bool.false_eq_true, if_false] at g1 hW1
                    generalize lQ lb = XB at *
                    generalize lQ ls = XS at *
                    generalize lQ A1.lb = UB at *
                    generalize lQ A1.ls = US at *
                    have hw1 : IntKind.i64.wrap (XS + lf) = US := by rw [IntKind.wrap_i64]; omega
                    have hw2 : IntKind.i64.wrap (XB - fl) = XB - fl := by rw [IntKind.wrap_i64]; omega
                    have hw3 : IntKind.i64.wrap (XB - fl - G) = UB := by rw [IntKind.wrap_i64]; omega
                    clear hB1 hB2 hB3 hB4 hN1 hN2 hN3 hN4 g1 g2 g3 hW1
                    have hw4 : IntKind.i64.wrap (fl + lf) = fl + lf := by rw [IntKind.wrap_i64]; omega
                    go_wp2_with ((go_at_call 10; (with_reducible refine (known07 _).mono ?_); rintro e w5 ⟨rfl, hb5⟩))
                    go_ret
                    exact ⟨rfl, HBW.out.trans ((below_then HBX.out hb5).mono (by have := HBW.out.size; omega))⟩
                  · simp only [if_true] at g1 hW1
                    generalize lQ lb = XB at *
                    generalize lQ ls = XS at *
                    generalize lQ A1.lb = UB at *
                    generalize lQ A1.ls = US at *
                    have hw1 : IntKind.i64.wrap (XB + lf) = UB := by rw [IntKind.wrap_i64]; omega
                    have hw2 : IntKind.i64.wrap (XS - fl) = XS - fl := by rw [IntKind.wrap_i64]; omega
                    have hw3 : IntKind.i64.wrap (XS - fl - G) = US := by rw [IntKind.wrap_i64]; omega
                    clear hB1 hB2 hB3 hB4 hN1 hN2 hN3 hN4 g1 g2 g3 hW1
                    have hw4 : IntKind.i64.wrap (fl + lf) = fl + lf := by rw [IntKind.wrap_i64]; omega
                    go_wp2_with ((go_at_call 10; (with_reducible refine (known07 _).mono ?_); rintro e w5 ⟨rfl, hb5⟩))
                    go_ret
                    exact ⟨rfl, HBW.out.trans ((below_then HBX.out hb5).mono (by have := HBW.out.size; omega))⟩
        · have h0b : (A1.er == 0) = false := beq_eq_false_iff_ne.2 h0
          obtain ⟨e1, e2, e3, e4, e5, e6⟩ := HNO.out h0
          rw [e1, e2] at HR9w
          rw [e3, e4, e5, e6] at hc1
          have hnn : A1.lb.length + A1.ls.length = lb.length + ls.length := by rw [e1, e2]
          rw [hnn]
          clear e1 e2 e3 e4 e5 e6 hnn
          generalize hLO : (fun i => oa (od (lb ++ ls) i)) = LO at *
          have HLO := Lib.hid (show ∀ i, IsOrd (LO i) from fun i => by rw [← hLO]; exact HOR.out i)
          clear hLO
          generalize lb.length + ls.length = nl at *
          go_wp2
          go_loopg [89] nl (fun gh vi wx => ∃ j : Nat, j ≤ nl ∧ gh = nl - j ∧ vi = .int .i64 j ∧ Below w9.heap.size w9 wx)
          case atStart => exact ⟨0, by omega, by omega, rfl, Below.refl _ _⟩
          case round =>
            obtain ⟨j, hj, rfl, rfl, hb⟩ := hrel
            have HBX := Lib.hid hb
            clear hb
            by_cases hlt : j < nl
            · have hlti : (j : Int) < (nl : Int) := by omega
              obtain ⟨g1, o1, C1, t1, f1, rfl, hg1, hs1, hx1⟩ := (HR8w.out.kept HBX.out) j hlt
              obtain ⟨g3, o3, C3, t3, f3, rfl, hg3, hs3, hx3⟩ := (HR9w.out.kept HBX.out) j hlt
              have hneq := neq_ord (HLO.out j)
              have HX1 := Lib.hid hx1
              have HX3 := Lib.hid hx3
              clear hx1 hx3
              go_wp2
              refine wp_region_below (by kernel_rfl) (by kernel_rfl) ?_
              repeat (first | ((with_reducible apply q_skip); (case hw => rfl); (try simp only [Act.put, List.setIfInBounds_toArray, List.set_cons_zero, List.set_cons_succ])) | ((with_reducible refine at_qload 30 ?_); refine q_load_fr (by rfl) 30 _ rfl (g1) (o1 + j * 5) rfl _ (C1) _ _ 5 (hg1) Try.underlying30 rfl (by kernel_rfl) (hs1) (LO j) (HX1.out) ?_; try simp only [Act.put, List.setIfInBounds_toArray, List.set_cons_zero, List.set_cons_succ]) | ((with_reducible refine at_qload 30 ?_); refine q_load_fr (by rfl) 30 _ rfl (g3) (o3 + j * 5) rfl _ (C3) _ _ 5 (hg3) Try.underlying30 rfl (by kernel_rfl) (hs3) (LO j) (HX3.out) ?_; try simp only [Act.put, List.setIfInBounds_toArray, List.set_cons_zero, List.set_cons_succ]) | ((with_reducible apply q_val); (case hw => rfl); (case hv => intro wq hbq; go_simp; try rfl); (try simp only [Act.put, List.setIfInBounds_toArray, List.set_cons_zero, List.set_cons_succ])))
              refine q_nil ?_
              intro w4q hb4
              have HB4 := Lib.hid (below_then HBX.out hb4)
              clear hb4
              go_wp2
              go_roundg (nl - (j + 1))
              case measure => omega
              case rel => exact ⟨j + 1, by omega, rfl, by go_num, HB4.out⟩
            · obtain rfl : j = nl := by omega
              go_wp2_with ((go_at_call 10; (with_reducible refine (known07 _).mono ?_); rintro e w5 ⟨rfl, hb5⟩))
              go_ret
              exact ⟨rfl, HBW.out.trans ((below_then HBX.out hb5).mono (by have := HBW.out.size; omega))⟩
end Go.Proofs.Ytmjfbilhalkegaa
