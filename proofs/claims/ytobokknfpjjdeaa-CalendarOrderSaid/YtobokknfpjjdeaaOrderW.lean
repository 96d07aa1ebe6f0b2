/- CalendarOrder, walked: it returns true. No condition. -/
import Derived.Test.YtobokknfpjjdeaaEqCon
import Derived.Deep.CutBlock
namespace Go.Proofs.Ytobokknfpjjdeaa
set_option linter.unusedVariables false
set_option linter.unusedSimpArgs false
open Go.RowKit

theorem ex_act {T : Array Value} {ds : List Deferred} {p : (Nat → Value) → Prop} {lit : (Nat → Value) → Array Value} (h1 : p (fun i => T.getD i undef)) (h2 : T = lit (fun i => T.getD i undef)) : ∃ u, p u ∧ (⟨T, ds⟩ : Act) = ⟨lit u, ds⟩ :=
  ⟨_, h1, by rw [← h2]⟩
theorem close_round {J I : Nat → Act → World → Prop} {n : Nat} {a : Act} {w : World} (hJ : ∀ k a w, I k a w → J k a w) (k : Nat) (hk : k < n) (h : I k a w) : Handed J n a w := Handed.intro k hk (hJ _ _ _ h)
def FREL (n : Nat) (w : World) (g b2 : Nat) (v0 : Value) (gh : Nat) (v9 v55 : Value) (wr : World) : Prop :=
  ∃ (j k m : Nat) (day : Int) (K G : Nat → Array Value), j ≤ n ∧ gh = n - j ∧ v55 = .int .i64 j ∧ day ≤ j ∧ m ≤ j ∧ CalIs wr g g k day K ∧ GI K k G m ∧ OE w g b2 v0 v9 m G wr
def FREL3 (m k : Nat) (w : World) (g b2 : Nat) (v0 vg : Value) (day : Int) (K G : Nat → Array Value) (gh : Nat) (v155 : Value) (wr : World) : Prop :=
  ∃ t : Nat, t ≤ m ∧ gh = m - t ∧ v155 = .int .i64 t ∧ CalIs wr g g k day K ∧ OE w g b2 v0 vg m G wr
set_option maxRecDepth 100000 in
set_option maxHeartbeats 16000000 in
theorem order05_walk (a0 : Option Addr) (n0 c0 : Nat) (L0 : Nat → Array Value) (a1 : Option Addr) (n1 c1 : Nat) (L1 : Nat → Array Value) (a2 : Option Addr) (n2 c2 : Nat) (L2 : Nat → Array Value) (w : World)
    (hL0 : ∀ i, IsSpec (L0 i)) (hl0 : RowsC w 25 a0 n0 L0) (hn0 : n0 ≤ c0) (hc0 : c0 ≤ 9223372036854775807) (hz0 : a0 = none → n0 = 0 ∧ c0 = 0)
    (hL1 : ∀ i, IsU (L1 i)) (hl1 : RowsC w 1 a1 n1 L1) (hn1 : n1 ≤ c1) (hc1 : c1 ≤ 9223372036854775807) (hz1 : a1 = none → n1 = 0 ∧ c1 = 0)
    (hL2 : ∀ i, IsBo (L2 i)) (hl2 : RowsC w 1 a2 n2 L2) (hn2 : n2 ≤ c2) (hc2 : c2 ≤ 9223372036854775807) (hz2 : a2 = none → n2 = 0 ∧ c2 = 0) :
    Calls Try.prog 6 #[.slice a0 n0 c0, .slice a1 n1 c1, .slice a2 n2 c2] w fun e w' => e = .returned (.bool true) ∧ Below w.heap.size w w' := by
  have hne : ∀ (w : World) (g : Nat), (binOp .eql 56 (.pointer (some ⟨g, 0, none⟩)) (.pointer none)).run Try.prog w = .ok (.bool false) w := fun _ _ => by kernel_rfl
  have hnn : ∀ (w : World) (g : Nat), (binOp .neq 56 (.pointer (some ⟨g, 0, none⟩)) (.pointer none)).run Try.prog w = .ok (.bool true) w := fun _ _ => by kernel_rfl
  have HL0 := Lib.hid hL0
  have HR0 := Lib.hid hl0
  have HL1 := Lib.hid hL1
  have HR1 := Lib.hid hl1
  have HL2 := Lib.hid hL2
  have HR2 := Lib.hid hl2
  clear hL0 hl0 hz0 hL1 hl1 hz1 hL2 hl2 hz2
  go_enter Try.func6, Try.ntmps6
  by_cases b0 : 16 < n0
  · have hbz : (16 : Int) < n0 := by omega
    go_wp2_with (first | (go_at_call 23; (with_reducible refine (cnew_any _).mono ?_); rintro e w1 ⟨rfl, hN1, hb1⟩) | (go_at_call 24; (with_reducible refine (known05 _).mono ?_); rintro e w9 ⟨rfl, hb9⟩))
    go_ret
    exact ⟨rfl, below_then hb1 hb9⟩
  have hbz0 : ¬ (16 : Int) < n0 := by omega
  by_cases b1 : 300 < n1
  · have hbz : (300 : Int) < n1 := by omega
    go_wp2_with (first | (go_at_call 23; (with_reducible refine (cnew_any _).mono ?_); rintro e w1 ⟨rfl, hN1, hb1⟩) | (go_at_call 24; (with_reducible refine (known05 _).mono ?_); rintro e w9 ⟨rfl, hb9⟩))
    go_ret
    exact ⟨rfl, below_then hb1 hb9⟩
  have hbz1 : ¬ (300 : Int) < n1 := by omega
  by_cases b2 : 300 < n2
  · have hbz : (300 : Int) < n2 := by omega
    go_wp2_with (first | (go_at_call 23; (with_reducible refine (cnew_any _).mono ?_); rintro e w1 ⟨rfl, hN1, hb1⟩) | (go_at_call 24; (with_reducible refine (known05 _).mono ?_); rintro e w9 ⟨rfl, hb9⟩))
    go_ret
    exact ⟨rfl, below_then hb1 hb9⟩
  have hbz2 : ¬ (300 : Int) < n2 := by omega
  go_wp2_with (first | (go_at_call 23; (with_reducible refine (cnew_any _).mono ?_); rintro e w1 ⟨rfl, hN1, hb1⟩))
  go_loopg [43] n0 (fun gh i wr => ∃ (j k : Nat) (K : Nat → Array Value), j ≤ n0 ∧ gh = n0 - j ∧ i = .int .i64 j ∧ CalIs wr w.heap.size w.heap.size k 0 K ∧ Below w.heap.size w wr)
  case atStart => exact ⟨0, 0, _, by omega, rfl, rfl, hN1, hb1⟩
  case round =>
    obtain ⟨j, k, K, hj, rfl, rfl, hC, hB⟩ := hrel
    by_cases hlt : j < n0
    · obtain ⟨ga, off, A, t, fr, rfl, hgA, hsA, hxA⟩ := HR0.out.kept hB j hlt
      have ca := clist_any hC (HL0.out j)
      have HC := Lib.hid hC
      clear hC
      go_wp2_with (first | ((with_reducible refine at_load 61 ?_); refine wpList_load_part rfl 61 _ rfl (ga) (off + j * 25) rfl _ (A) _ _ 25 (hgA) Try.underlying61 rfl (by kernel_rfl) (hsA) (L0 j) (hxA) ?_) | (go_at_call 25; (with_reducible refine (ca).mono ?_); rintro e w3 ⟨r, rfl, h3⟩))
      rcases h3 with ⟨_, hb3⟩ | ⟨_, _, _, _, _, pi, _, q3, q4⟩
      · go_roundg (n0 - (j + 1))
        case measure => omega
        case rel => exact ⟨j + 1, k, K, by omega, rfl, by go_num, HC.out.kept hb3, below_then hB hb3⟩
      · go_roundg (n0 - (j + 1))
        case measure => omega
        case rel => exact ⟨j + 1, k + 1, _, by omega, rfl, by go_num, q3, hB.trans q4⟩
    · obtain rfl : j = n0 := by omega
      obtain ⟨v0, hg0, hrow0⟩ := hC.row
      have hgl := (cells_of hg0).2.2
      have hOE : OE w w.heap.size wr.heap.size v0 (.slice none 0 0) 0 (fun _ => conA (kp 1 (-1)) 10) wr :=
        ⟨⟨0, hg0⟩, fun b hb => by obtain ⟨A9, fr9, h9⟩ := own_tag hrow0 b hb; exact (Array.getElem?_eq_some_iff.1 h9).1, hgl, World.ownsRow_nil _ _ _ _, fun _ => conA_con kp_spec (by unfold F64; omega), hB, Nat.le_refl _, Nat.le_refl _⟩
      have hGI : GI K k (fun _ => conA (kp 1 (-1)) 10) 0 := ⟨fun t ht => by omega, fun t ht => by omega⟩
      have HC0 := Lib.hid hC
      have HE0 := Lib.hid hOE
      have HG0 := Lib.hid hGI
      clear hC hOE hGI hg0 hrow0 hB hb1 hN1 hgl
      generalize hb2w : wr.heap.size = b2w at *
      clear hb2w
      go_wp2_with fail
      refine wp_loop_ghost_k (fun gh ac wr => ∃ (u : Nat → Value), FREL n1 w w.heap.size b2w v0 gh (u 9) (u 55) wr ∧ ac = { tmps := #[u 0, .slice a1 n1 c1, .slice a2 n2 c2, u 3, u 4, u 5, u 6, .pointer (some ⟨w.heap.size, 0, none⟩), u 8, u 9, u 10, u 11, u 12, u 13, u 14, u 15, u 16, u 17, u 18, u 19, u 20, u 21, u 22, u 23, u 24, u 25, u 26, u 27, u 28, u 29, u 30, u 31, u 32, u 33, u 34, u 35, u 36, u 37, u 38, u 39, u 40, u 41, u 42, u 43, u 44, u 45, u 46, u 47, u 48, u 49, u 50, u 51, u 52, u 53, .int .i64 n1, u 55, u 56, u 57, u 58, u 59, u 60, u 61, u 62, u 63, u 64, u 65, u 66, u 67, u 68, u 69, u 70, u 71, u 72, u 73, u 74, u 75, u 76, u 77, u 78, u 79, u 80, u 81, u 82, u 83, u 84, u 85, u 86, u 87, u 88, u 89, u 90, u 91, u 92, u 93, u 94, u 95, u 96, u 97, u 98, u 99, u 100, u 101, u 102, u 103, u 104, u 105, u 106, u 107, u 108, u 109, u 110, u 111, u 112, u 113, u 114, u 115, u 116, u 117, u 118, u 119, u 120, u 121, u 122, u 123, u 124, u 125, u 126, u 127, u 128, u 129, u 130, u 131, u 132, u 133, u 134, u 135, u 136, u 137, u 138, u 139, u 140, u 141, u 142, u 143, u 144, u 145, u 146, u 147, u 148, u 149, u 150, u 151, u 152, u 153, u 154, u 155, u 156, u 157, u 158, u 159, u 160, u 161, u 162, u 163, u 164, u 165, u 166, u 167, u 168, u 169, u 170, u 171, u 172, u 173, u 174, u 175, u 176, u 177, u 178, u 179, u 180], defers := [] }) n1 ?atStart2 ?round2
      case atStart2 =>
        refine ex_act ?_ (by rfl)
        exact ⟨0, k, 0, 0, K, _, by omega, rfl, rfl, by omega, by omega, HC0.out, HG0.out, HE0.out⟩
      case round2 =>
        clear HC0 HE0 HG0
        rintro gh ac wr2 ⟨u, ⟨j, k, m, day, K, G, hj, rfl, e55, hdj, hmj, hC, hI, hE⟩, rfl⟩ J K9 hJ hK
        obtain ⟨gga, ggc, e9, hGR, hmc, hgc, _⟩ := own_rows (c := 27) (fun t => (hE.gc t).size) hE.own
        rw [e9] at hE
        rw [e55, e9]
        clear e55 e9
        by_cases hlt : j < n1
        · skip
          obtain ⟨tg, tof, rfl, _⟩ := HR1.out.cell1 hlt
          obtain ⟨nn, hnn0⟩ : ∃ nn, (L1 j)[0]? = some (.int .u32 nn) := ⟨_, (HL1.out j).2.1⟩
          have HT := Lib.hid (fun (w' : World) (hb : Below w.heap.size w w') => show w'.cell? ⟨tg, tof + j, none⟩ = some (.int .u32 nn) from by
            obtain ⟨g', o', e, hc⟩ := (HR1.out.kept hb).cell1 hlt
            injection e with e; injection e with e1 e2
            rw [e1, e2, hc]; exact hnn0)
          have HJ := Lib.hid hJ
          have HC := Lib.hid hC
          have HI := Lib.hid hI
          have HE := Lib.hid hE
          have HGR := Lib.hid hGR
          have HCZ := Lib.hid cz_size
          have HCA := Lib.hid cz_all
          have t2 := HT.out _ hE.be
          clear hnn0 hJ hC hI hE hGR
          rcases there (K := K) k nn with hno | ⟨p, hp, hpn⟩
          · have HNO := Lib.hid hno
            clear hno
            go_upto_region 24 with (first | (go_at_call 26; (with_reducible refine (cget_out HC.out HNO.out).mono ?_); rintro e w3 ⟨rfl, hb3⟩; have HE3 := Lib.hid (HE.out.below hb3); have HC3 := Lib.hid (HC.out.kept hb3); clear hb3) | ((with_reducible refine at_alloc 65 ?_); refine wpList_alloc_named rfl 65 rfl cz (by kernel_rfl) ?_) | ((with_reducible refine at_store 65 ?_); refine wpList_store_over rfl 65 _ _ rfl (w3.heap.size) (cz) rfl rfl _ _ (heap_alloc_new _ _) (by rw [HCZ.out]; kernel_rfl) (rfl) (HCA.out) ?_; intro w4 hg4 hs4 ho4 hb4; have hb34 := (below_new w3 (Obj.cells cz 65)).trans (hb4 _ (Nat.le_refl _)); have HE4 := Lib.hid (HE3.out.below hb34); have HC4 := Lib.hid (HC3.out.kept hb34); have t4 := HT.out w4 HE4.out.be; clear hg4 hs4 ho4 hb4 hb34) | (go_at_call 27; (with_reducible refine (cexp_out HC4.out HNO.out).mono ?_); rintro e w5 ⟨rfl, hb5⟩; have HEX := Lib.hid (HE4.out.below hb5); have HCX := Lib.hid (HC4.out.kept hb5); clear hb5 t4))
            have HIX := HI
            clear t2
            have tX := HT.out _ HEX.out.be
            by_cases hjd : j < n2
            · obtain ⟨dg, dof, rfl, _⟩ := HR2.out.cell1 hjd
              obtain ⟨db, hdb⟩ : ∃ db : Bool, (L2 j)[0]? = some (Value.bool db) := ⟨Bo (L2 j) 0, (HL2.out j).2⟩
              have HD := Lib.hid (fun (w' : World) (hb : Below w.heap.size w w') => show w'.cell? ⟨dg, dof + j, none⟩ = some (.bool db) from by
                obtain ⟨g', o', e, hc⟩ := (HR2.out.kept hb).cell1 hjd
                injection e with e; injection e with e1 e2
                rw [e1, e2, hc]; exact hdb)
              clear hdb
              have hjz : (j : Int) < n2 := by omega
              cases db
              · skip
                go_wp2_with (first | (go_at_call 28; (with_reducible refine (cpub_q nn 10 (by unfold F64; omega) HCX.out).mono ?_); rintro e w15 ⟨⟨r5, rfl⟩, hq5⟩; obtain ⟨K5, c5, s5, b5, k5⟩ := hq5; have HC5 := Lib.hid c5; have HS5 := Lib.hid s5; have HE5 := Lib.hid (HEX.out.kv k5 b5); have t5 := HT.out w15 HE5.out.be; clear c5 s5 b5 k5) | (go_at_call 29; (with_reducible refine (chalt_q nn true HC5.out).mono ?_); rintro e w16 ⟨⟨r6, rfl⟩, hq6⟩; obtain ⟨K6, c6, s6, b6, k6⟩ := hq6; have HC6 := Lib.hid c6; have HS6 := Lib.hid s6; have HE6 := Lib.hid (HE5.out.kv k6 b6); have t6 := HT.out w16 HE6.out.be; clear c6 s6 b6 k6) | (go_at_call 29; (with_reducible refine (chalt_q nn false HC6.out).mono ?_); rintro e w17 ⟨⟨r7, rfl⟩, hq7⟩; obtain ⟨K7, c7, s7, b7, k7⟩ := hq7; have HC7 := Lib.hid c7; have HS7 := Lib.hid s7; have HE7 := Lib.hid (HE6.out.kv k7 b7); have t7 := HD.out w17 HE7.out.be; clear c7 s7 b7 k7) | (go_at_call 30; (with_reducible refine (cnext_ok HC7.out (by omega)).mono ?_); rintro e w18 ⟨rfl, c8, b8, k8⟩; have HC8 := Lib.hid c8; have HE8 := Lib.hid (HE7.out.kv k8 b8); clear c8 b8 k8))
                exact close_round HJ.out (n1 - (j + 1)) (by omega) (ex_act ⟨j + 1, k, m, day, K7, G, by omega, rfl, rfl, by omega, by omega, HC7.out, HIX.out.same (HS5.out.trans (HS6.out.trans HS7.out)), HE7.out⟩ (by rfl))
              · skip
                go_wp2_with (first | (go_at_call 28; (with_reducible refine (cpub_q nn 10 (by unfold F64; omega) HCX.out).mono ?_); rintro e w15 ⟨⟨r5, rfl⟩, hq5⟩; obtain ⟨K5, c5, s5, b5, k5⟩ := hq5; have HC5 := Lib.hid c5; have HS5 := Lib.hid s5; have HE5 := Lib.hid (HEX.out.kv k5 b5); have t5 := HT.out w15 HE5.out.be; clear c5 s5 b5 k5) | (go_at_call 29; (with_reducible refine (chalt_q nn true HC5.out).mono ?_); rintro e w16 ⟨⟨r6, rfl⟩, hq6⟩; obtain ⟨K6, c6, s6, b6, k6⟩ := hq6; have HC6 := Lib.hid c6; have HS6 := Lib.hid s6; have HE6 := Lib.hid (HE5.out.kv k6 b6); have t6 := HT.out w16 HE6.out.be; clear c6 s6 b6 k6) | (go_at_call 29; (with_reducible refine (chalt_q nn false HC6.out).mono ?_); rintro e w17 ⟨⟨r7, rfl⟩, hq7⟩; obtain ⟨K7, c7, s7, b7, k7⟩ := hq7; have HC7 := Lib.hid c7; have HS7 := Lib.hid s7; have HE7 := Lib.hid (HE6.out.kv k7 b7); have t7 := HD.out w17 HE7.out.be; clear c7 s7 b7 k7) | (go_at_call 30; (with_reducible refine (cnext_ok HC7.out (by omega)).mono ?_); rintro e w18 ⟨rfl, c8, b8, k8⟩; have HC8 := Lib.hid c8; have HE8 := Lib.hid (HE7.out.kv k8 b8); clear c8 b8 k8))
                exact close_round HJ.out (n1 - (j + 1)) (by omega) (ex_act ⟨j + 1, k, m, day + 1, K7, G, by omega, rfl, rfl, by omega, by omega, HC8.out, HIX.out.same (HS5.out.trans (HS6.out.trans HS7.out)), HE8.out⟩ (by rfl))
            · have hjz : ¬ (j : Int) < n2 := by omega
              have HD := Lib.hid (fun (w' : World) (hb : Below w.heap.size w w') => trivial)
              go_wp2_with (first | (go_at_call 28; (with_reducible refine (cpub_q nn 10 (by unfold F64; omega) HCX.out).mono ?_); rintro e w15 ⟨⟨r5, rfl⟩, hq5⟩; obtain ⟨K5, c5, s5, b5, k5⟩ := hq5; have HC5 := Lib.hid c5; have HS5 := Lib.hid s5; have HE5 := Lib.hid (HEX.out.kv k5 b5); have t5 := HT.out w15 HE5.out.be; clear c5 s5 b5 k5) | (go_at_call 29; (with_reducible refine (chalt_q nn true HC5.out).mono ?_); rintro e w16 ⟨⟨r6, rfl⟩, hq6⟩; obtain ⟨K6, c6, s6, b6, k6⟩ := hq6; have HC6 := Lib.hid c6; have HS6 := Lib.hid s6; have HE6 := Lib.hid (HE5.out.kv k6 b6); have t6 := HT.out w16 HE6.out.be; clear c6 s6 b6 k6) | (go_at_call 29; (with_reducible refine (chalt_q nn false HC6.out).mono ?_); rintro e w17 ⟨⟨r7, rfl⟩, hq7⟩; obtain ⟨K7, c7, s7, b7, k7⟩ := hq7; have HC7 := Lib.hid c7; have HS7 := Lib.hid s7; have HE7 := Lib.hid (HE6.out.kv k7 b7); have t7 := HD.out w17 HE7.out.be; clear c7 s7 b7 k7) | (go_at_call 30; (with_reducible refine (cnext_ok HC7.out (by omega)).mono ?_); rintro e w18 ⟨rfl, c8, b8, k8⟩; have HC8 := Lib.hid c8; have HE8 := Lib.hid (HE7.out.kv k8 b8); clear c8 b8 k8))
              exact close_round HJ.out (n1 - (j + 1)) (by omega) (ex_act ⟨j + 1, k, m, day, K7, G, by omega, rfl, rfl, by omega, by omega, HC7.out, HIX.out.same (HS5.out.trans (HS6.out.trans HS7.out)), HE7.out⟩ (by rfl))
          · have HMZ := Lib.hid ((HC.out.con p).size)
            have HMA := Lib.hid ((HC.out.con p).all)
            by_cases hst : N (K p) 25 = 3
            · skip
              go_upto_region 24 with (first | (go_at_call 26; (with_reducible refine (cget_in HC.out hp hpn).mono ?_); rintro e w3 ⟨rfl, hb3⟩; have hs3 := hb3.size; have HE3 := Lib.hid (HE.out.below hb3); have HC3 := Lib.hid (HC.out.kept hb3); clear hb3) | ((with_reducible refine at_alloc 65 ?_); refine wpList_alloc_named rfl 65 rfl cz (by kernel_rfl) ?_) | ((with_reducible refine at_store 65 ?_); refine wpList_store_over rfl 65 _ _ rfl (w3.heap.size) (K p) rfl rfl _ _ (heap_alloc_new _ _) (by rw [HMZ.out]; kernel_rfl) (by rw [HMZ.out]; exact HCZ.out) (HMA.out) ?_; intro w4 hg4 hs4 ho4 hb4; have hb34 := (below_new w3 (Obj.cells cz 65)).trans (hb4 _ (Nat.le_refl _)); have HE4 := Lib.hid (HE3.out.below hb34); have HC4 := Lib.hid (HC3.out.kept hb34); have HG4 := Lib.hid hg4; have t4 := HT.out w4 HE4.out.be; clear hg4 hs4 ho4 hb4 hb34) | (go_at_call 27; (with_reducible refine (cexp_gone HC4.out hp hpn hst).mono ?_); rintro e w5 ⟨rfl, hb5⟩; have HEX := Lib.hid (HE4.out.below hb5); have HCX := Lib.hid (HC4.out.kept hb5); clear hb5 t4))
              have HIX := HI
              clear t2
              have tX := HT.out _ HEX.out.be
              by_cases hjd : j < n2
              · obtain ⟨dg, dof, rfl, _⟩ := HR2.out.cell1 hjd
                obtain ⟨db, hdb⟩ : ∃ db : Bool, (L2 j)[0]? = some (Value.bool db) := ⟨Bo (L2 j) 0, (HL2.out j).2⟩
                have HD := Lib.hid (fun (w' : World) (hb : Below w.heap.size w w') => show w'.cell? ⟨dg, dof + j, none⟩ = some (.bool db) from by
                  obtain ⟨g', o', e, hc⟩ := (HR2.out.kept hb).cell1 hjd
                  injection e with e; injection e with e1 e2
                  rw [e1, e2, hc]; exact hdb)
                clear hdb
                have hjz : (j : Int) < n2 := by omega
                cases db
                · skip
                  go_wp2_with (first | (go_at_call 28; (with_reducible refine (cpub_q nn 10 (by unfold F64; omega) HCX.out).mono ?_); rintro e w15 ⟨⟨r5, rfl⟩, hq5⟩; obtain ⟨K5, c5, s5, b5, k5⟩ := hq5; have HC5 := Lib.hid c5; have HS5 := Lib.hid s5; have HE5 := Lib.hid (HEX.out.kv k5 b5); have t5 := HT.out w15 HE5.out.be; clear c5 s5 b5 k5) | (go_at_call 29; (with_reducible refine (chalt_q nn true HC5.out).mono ?_); rintro e w16 ⟨⟨r6, rfl⟩, hq6⟩; obtain ⟨K6, c6, s6, b6, k6⟩ := hq6; have HC6 := Lib.hid c6; have HS6 := Lib.hid s6; have HE6 := Lib.hid (HE5.out.kv k6 b6); have t6 := HT.out w16 HE6.out.be; clear c6 s6 b6 k6) | (go_at_call 29; (with_reducible refine (chalt_q nn false HC6.out).mono ?_); rintro e w17 ⟨⟨r7, rfl⟩, hq7⟩; obtain ⟨K7, c7, s7, b7, k7⟩ := hq7; have HC7 := Lib.hid c7; have HS7 := Lib.hid s7; have HE7 := Lib.hid (HE6.out.kv k7 b7); have t7 := HD.out w17 HE7.out.be; clear c7 s7 b7 k7) | (go_at_call 30; (with_reducible refine (cnext_ok HC7.out (by omega)).mono ?_); rintro e w18 ⟨rfl, c8, b8, k8⟩; have HC8 := Lib.hid c8; have HE8 := Lib.hid (HE7.out.kv k8 b8); clear c8 b8 k8))
                  exact close_round HJ.out (n1 - (j + 1)) (by omega) (ex_act ⟨j + 1, k, m, day, K7, G, by omega, rfl, rfl, by omega, by omega, HC7.out, HIX.out.same (HS5.out.trans (HS6.out.trans HS7.out)), HE7.out⟩ (by rfl))
                · skip
                  go_wp2_with (first | (go_at_call 28; (with_reducible refine (cpub_q nn 10 (by unfold F64; omega) HCX.out).mono ?_); rintro e w15 ⟨⟨r5, rfl⟩, hq5⟩; obtain ⟨K5, c5, s5, b5, k5⟩ := hq5; have HC5 := Lib.hid c5; have HS5 := Lib.hid s5; have HE5 := Lib.hid (HEX.out.kv k5 b5); have t5 := HT.out w15 HE5.out.be; clear c5 s5 b5 k5) | (go_at_call 29; (with_reducible refine (chalt_q nn true HC5.out).mono ?_); rintro e w16 ⟨⟨r6, rfl⟩, hq6⟩; obtain ⟨K6, c6, s6, b6, k6⟩ := hq6; have HC6 := Lib.hid c6; have HS6 := Lib.hid s6; have HE6 := Lib.hid (HE5.out.kv k6 b6); have t6 := HT.out w16 HE6.out.be; clear c6 s6 b6 k6) | (go_at_call 29; (with_reducible refine (chalt_q nn false HC6.out).mono ?_); rintro e w17 ⟨⟨r7, rfl⟩, hq7⟩; obtain ⟨K7, c7, s7, b7, k7⟩ := hq7; have HC7 := Lib.hid c7; have HS7 := Lib.hid s7; have HE7 := Lib.hid (HE6.out.kv k7 b7); have t7 := HD.out w17 HE7.out.be; clear c7 s7 b7 k7) | (go_at_call 30; (with_reducible refine (cnext_ok HC7.out (by omega)).mono ?_); rintro e w18 ⟨rfl, c8, b8, k8⟩; have HC8 := Lib.hid c8; have HE8 := Lib.hid (HE7.out.kv k8 b8); clear c8 b8 k8))
                  exact close_round HJ.out (n1 - (j + 1)) (by omega) (ex_act ⟨j + 1, k, m, day + 1, K7, G, by omega, rfl, rfl, by omega, by omega, HC8.out, HIX.out.same (HS5.out.trans (HS6.out.trans HS7.out)), HE8.out⟩ (by rfl))
              · have hjz : ¬ (j : Int) < n2 := by omega
                have HD := Lib.hid (fun (w' : World) (hb : Below w.heap.size w w') => trivial)
                go_wp2_with (first | (go_at_call 28; (with_reducible refine (cpub_q nn 10 (by unfold F64; omega) HCX.out).mono ?_); rintro e w15 ⟨⟨r5, rfl⟩, hq5⟩; obtain ⟨K5, c5, s5, b5, k5⟩ := hq5; have HC5 := Lib.hid c5; have HS5 := Lib.hid s5; have HE5 := Lib.hid (HEX.out.kv k5 b5); have t5 := HT.out w15 HE5.out.be; clear c5 s5 b5 k5) | (go_at_call 29; (with_reducible refine (chalt_q nn true HC5.out).mono ?_); rintro e w16 ⟨⟨r6, rfl⟩, hq6⟩; obtain ⟨K6, c6, s6, b6, k6⟩ := hq6; have HC6 := Lib.hid c6; have HS6 := Lib.hid s6; have HE6 := Lib.hid (HE5.out.kv k6 b6); have t6 := HT.out w16 HE6.out.be; clear c6 s6 b6 k6) | (go_at_call 29; (with_reducible refine (chalt_q nn false HC6.out).mono ?_); rintro e w17 ⟨⟨r7, rfl⟩, hq7⟩; obtain ⟨K7, c7, s7, b7, k7⟩ := hq7; have HC7 := Lib.hid c7; have HS7 := Lib.hid s7; have HE7 := Lib.hid (HE6.out.kv k7 b7); have t7 := HD.out w17 HE7.out.be; clear c7 s7 b7 k7) | (go_at_call 30; (with_reducible refine (cnext_ok HC7.out (by omega)).mono ?_); rintro e w18 ⟨rfl, c8, b8, k8⟩; have HC8 := Lib.hid c8; have HE8 := Lib.hid (HE7.out.kv k8 b8); clear c8 b8 k8))
                exact close_round HJ.out (n1 - (j + 1)) (by omega) (ex_act ⟨j + 1, k, m, day, K7, G, by omega, rfl, rfl, by omega, by omega, HC7.out, HIX.out.same (HS5.out.trans (HS6.out.trans HS7.out)), HE7.out⟩ (by rfl))
            · go_wp2_with (first | (go_at_call 26; (with_reducible refine (cget_in HC.out hp hpn).mono ?_); rintro e w3 ⟨rfl, hb3⟩; have hs3 := hb3.size; have HE3 := Lib.hid (HE.out.below hb3); have HC3 := Lib.hid (HC.out.kept hb3); clear hb3) | ((with_reducible refine at_alloc 65 ?_); refine wpList_alloc_named rfl 65 rfl cz (by kernel_rfl) ?_) | ((with_reducible refine at_store 65 ?_); refine wpList_store_over rfl 65 _ _ rfl (w3.heap.size) (K p) rfl rfl _ _ (heap_alloc_new _ _) (by rw [HMZ.out]; kernel_rfl) (by rw [HMZ.out]; exact HCZ.out) (HMA.out) ?_; intro w4 hg4 hs4 ho4 hb4; have hb34 := (below_new w3 (Obj.cells cz 65)).trans (hb4 _ (Nat.le_refl _)); have HE4 := Lib.hid (HE3.out.below hb34); have HC4 := Lib.hid (HC3.out.kept hb34); have HG4 := Lib.hid hg4; have t4 := HT.out w4 HE4.out.be; clear hg4 hs4 ho4 hb4 hb34))
              refine (cexp_in HC4.out hp hpn hst).mono ?_
              rintro e w5 (⟨rfl, _, hb5⟩ | ⟨rfl, hy1, hy2, hC5, hb5, hk5⟩)
              · have HEX := Lib.hid (HE4.out.below hb5)
                have HCX := Lib.hid (HC4.out.kept hb5)
                have HIX := HI
                clear hb5 t4 t2
                go_upto_region 24 with fail
                have tX := HT.out _ HEX.out.be
                by_cases hjd : j < n2
                · obtain ⟨dg, dof, rfl, _⟩ := HR2.out.cell1 hjd
                  obtain ⟨db, hdb⟩ : ∃ db : Bool, (L2 j)[0]? = some (Value.bool db) := ⟨Bo (L2 j) 0, (HL2.out j).2⟩
                  have HD := Lib.hid (fun (w' : World) (hb : Below w.heap.size w w') => show w'.cell? ⟨dg, dof + j, none⟩ = some (.bool db) from by
                    obtain ⟨g', o', e, hc⟩ := (HR2.out.kept hb).cell1 hjd
                    injection e with e; injection e with e1 e2
                    rw [e1, e2, hc]; exact hdb)
                  clear hdb
                  have hjz : (j : Int) < n2 := by omega
                  cases db
                  · skip
                    go_wp2_with (first | (go_at_call 28; (with_reducible refine (cpub_q nn 10 (by unfold F64; omega) HCX.out).mono ?_); rintro e w15 ⟨⟨r5, rfl⟩, hq5⟩; obtain ⟨K5, c5, s5, b5, k5⟩ := hq5; have HC5 := Lib.hid c5; have HS5 := Lib.hid s5; have HE5 := Lib.hid (HEX.out.kv k5 b5); have t5 := HT.out w15 HE5.out.be; clear c5 s5 b5 k5) | (go_at_call 29; (with_reducible refine (chalt_q nn true HC5.out).mono ?_); rintro e w16 ⟨⟨r6, rfl⟩, hq6⟩; obtain ⟨K6, c6, s6, b6, k6⟩ := hq6; have HC6 := Lib.hid c6; have HS6 := Lib.hid s6; have HE6 := Lib.hid (HE5.out.kv k6 b6); have t6 := HT.out w16 HE6.out.be; clear c6 s6 b6 k6) | (go_at_call 29; (with_reducible refine (chalt_q nn false HC6.out).mono ?_); rintro e w17 ⟨⟨r7, rfl⟩, hq7⟩; obtain ⟨K7, c7, s7, b7, k7⟩ := hq7; have HC7 := Lib.hid c7; have HS7 := Lib.hid s7; have HE7 := Lib.hid (HE6.out.kv k7 b7); have t7 := HD.out w17 HE7.out.be; clear c7 s7 b7 k7) | (go_at_call 30; (with_reducible refine (cnext_ok HC7.out (by omega)).mono ?_); rintro e w18 ⟨rfl, c8, b8, k8⟩; have HC8 := Lib.hid c8; have HE8 := Lib.hid (HE7.out.kv k8 b8); clear c8 b8 k8))
                    exact close_round HJ.out (n1 - (j + 1)) (by omega) (ex_act ⟨j + 1, k, m, day, K7, G, by omega, rfl, rfl, by omega, by omega, HC7.out, HIX.out.same (HS5.out.trans (HS6.out.trans HS7.out)), HE7.out⟩ (by rfl))
                  · skip
                    go_wp2_with (first | (go_at_call 28; (with_reducible refine (cpub_q nn 10 (by unfold F64; omega) HCX.out).mono ?_); rintro e w15 ⟨⟨r5, rfl⟩, hq5⟩; obtain ⟨K5, c5, s5, b5, k5⟩ := hq5; have HC5 := Lib.hid c5; have HS5 := Lib.hid s5; have HE5 := Lib.hid (HEX.out.kv k5 b5); have t5 := HT.out w15 HE5.out.be; clear c5 s5 b5 k5) | (go_at_call 29; (with_reducible refine (chalt_q nn true HC5.out).mono ?_); rintro e w16 ⟨⟨r6, rfl⟩, hq6⟩; obtain ⟨K6, c6, s6, b6, k6⟩ := hq6; have HC6 := Lib.hid c6; have HS6 := Lib.hid s6; have HE6 := Lib.hid (HE5.out.kv k6 b6); have t6 := HT.out w16 HE6.out.be; clear c6 s6 b6 k6) | (go_at_call 29; (with_reducible refine (chalt_q nn false HC6.out).mono ?_); rintro e w17 ⟨⟨r7, rfl⟩, hq7⟩; obtain ⟨K7, c7, s7, b7, k7⟩ := hq7; have HC7 := Lib.hid c7; have HS7 := Lib.hid s7; have HE7 := Lib.hid (HE6.out.kv k7 b7); have t7 := HD.out w17 HE7.out.be; clear c7 s7 b7 k7) | (go_at_call 30; (with_reducible refine (cnext_ok HC7.out (by omega)).mono ?_); rintro e w18 ⟨rfl, c8, b8, k8⟩; have HC8 := Lib.hid c8; have HE8 := Lib.hid (HE7.out.kv k8 b8); clear c8 b8 k8))
                    exact close_round HJ.out (n1 - (j + 1)) (by omega) (ex_act ⟨j + 1, k, m, day + 1, K7, G, by omega, rfl, rfl, by omega, by omega, HC8.out, HIX.out.same (HS5.out.trans (HS6.out.trans HS7.out)), HE8.out⟩ (by rfl))
                · have hjz : ¬ (j : Int) < n2 := by omega
                  have HD := Lib.hid (fun (w' : World) (hb : Below w.heap.size w w') => trivial)
                  go_wp2_with (first | (go_at_call 28; (with_reducible refine (cpub_q nn 10 (by unfold F64; omega) HCX.out).mono ?_); rintro e w15 ⟨⟨r5, rfl⟩, hq5⟩; obtain ⟨K5, c5, s5, b5, k5⟩ := hq5; have HC5 := Lib.hid c5; have HS5 := Lib.hid s5; have HE5 := Lib.hid (HEX.out.kv k5 b5); have t5 := HT.out w15 HE5.out.be; clear c5 s5 b5 k5) | (go_at_call 29; (with_reducible refine (chalt_q nn true HC5.out).mono ?_); rintro e w16 ⟨⟨r6, rfl⟩, hq6⟩; obtain ⟨K6, c6, s6, b6, k6⟩ := hq6; have HC6 := Lib.hid c6; have HS6 := Lib.hid s6; have HE6 := Lib.hid (HE5.out.kv k6 b6); have t6 := HT.out w16 HE6.out.be; clear c6 s6 b6 k6) | (go_at_call 29; (with_reducible refine (chalt_q nn false HC6.out).mono ?_); rintro e w17 ⟨⟨r7, rfl⟩, hq7⟩; obtain ⟨K7, c7, s7, b7, k7⟩ := hq7; have HC7 := Lib.hid c7; have HS7 := Lib.hid s7; have HE7 := Lib.hid (HE6.out.kv k7 b7); have t7 := HD.out w17 HE7.out.be; clear c7 s7 b7 k7) | (go_at_call 30; (with_reducible refine (cnext_ok HC7.out (by omega)).mono ?_); rintro e w18 ⟨rfl, c8, b8, k8⟩; have HC8 := Lib.hid c8; have HE8 := Lib.hid (HE7.out.kv k8 b8); clear c8 b8 k8))
                  exact close_round HJ.out (n1 - (j + 1)) (by omega) (ex_act ⟨j + 1, k, m, day, K7, G, by omega, rfl, rfl, by omega, by omega, HC7.out, HIX.out.same (HS5.out.trans (HS6.out.trans HS7.out)), HE7.out⟩ (by rfl))
              · have HY := Lib.hid (And.intro hy1 hy2)
                have hE5 := HE4.out.kv hk5 hb5
                have hwr := hE5.hg
                have hb2s := HE.out.sz
                obtain ⟨d4, hd4⟩ := HE4.out.hv
                have hx5 := ((hk5 v0 d4 hd4).1 w3.heap.size (by omega) (fun e => by have := HE.out.lo _ e.symm; omega) (Array.getElem?_eq_some_iff.1 HG4.out).1).trans HG4.out
                have hxg : some w3.heap.size ≠ (Value.slice gga m ggc).ownBlock := fun e => by
                  obtain ⟨A9, fr9, h9⟩ := own_tag HE.out.own _ e.symm
                  have := (Array.getElem?_eq_some_iff.1 h9).1
                  omega
                have hWE := hE5.cell (i := 25) (u := .int .u8 3) hC5 (show b2w ≤ w3.heap.size by omega) hxg
                have hXW := heap_set (i := 25) (v := .int .u8 3) hx5
                obtain ⟨X, hX⟩ : ∃ X, X = (K p).setIfInBounds 25 (.int .u8 3) := ⟨_, rfl⟩
                have hXe : stt K p 3 p = X := by rw [hX]; unfold stt; rw [if_pos rfl]
                have HEXX := Lib.hid hXe
                have HXC := Lib.hid (show IsCon X by rw [← hXe]; exact con_stt HC.out.con (by decide) p)
                rw [← hX] at hXW
                have HXZ := Lib.hid HXC.out.size
                have HXA := Lib.hid HXC.out.all
                have HXX2 := Lib.hid (extract_all HXC.out.size)
                have hc5 := cellF hx5
                have hf5 := (cells_of hx5).2.1
                have k25 := (HC.out.con p).st.u8.1
                have k0 := (HC.out.con p).c0.1
                have k23 := con_ld (HC.out.con p)
                have x0 : X[0]? = some (.int .u32 (N (K p) 0)) := by rw [hX, Array.getElem?_setIfInBounds_ne (by omega)]; exact k0
                have x23 : X[23]? = some (.int .u32 (N (K p) 23)) := by rw [hX, Array.getElem?_setIfInBounds_ne (by omega)]; exact k23
                have hcX := cellF hXW
                have HGX := Lib.hid (show GI (stt K p 3) k (snoc G m X) (m + 1) by rw [← hXe]; exact HI.out.exp HC.out.con hp hst HY.out.2)
                have HLAST := Lib.hid (fun hm => HI.out.last HC.out.srt hp hst hm)
                clear hy1 hy2 hE5 hd4 hx5 hb5 hk5 hC5 t2 t4 k0 k23 hX hXe
                generalize N (K p) 0 = xn at *
                generalize N (K p) 23 = xd at *
                generalize N (K p) 25 = xs at *
                by_cases hm0 : m = 0
                · subst hm0
                  go_upto_region 23 with fail
                  clear hc5 hf5 k25 x0 x23 hcX HLAST
                  generalize w5.setCell ⟨w3.heap.size, 25, none⟩ (.int .u8 3) = WB at *
                  have HWE := Lib.hid hWE
                  have HXW := Lib.hid hXW
                  have hszW := hWE.1.sz
                  clear hWE hXW
                  obtain ⟨ip, zp, ip1, ip2, ip3, ip4, ip5⟩ := info_con
                  have HIP := Lib.hid (And.intro ip1 (And.intro ip2 (And.intro ip3 ip5)))
                  have HOWN := Lib.hid (HWE.out.1.own.alloc (Obj.cells X 65))
                  have HXX := Lib.hid (fun j u (hj : X.toList[j]? = some u) => show (WB.alloc (Obj.cells X 65)).cell? ((⟨WB.heap.size, 0, none⟩ : Addr).add j) = some u from by
                    have h2 : (⟨WB.heap.size, 0, none⟩ : Addr).add j = ⟨WB.heap.size, j, none⟩ := by unfold Addr.add; split <;> simp_all
                    rw [h2, cellF (heap_alloc_new WB (Obj.cells X 65))]
                    simpa using hj)
                  have HXB := Lib.hid (fun u (hu : u ∈ X.toList) => show u.oneCell' = true from by have h1 := HXA.out; rw [Array.all_eq_true'] at h1; exact h1 u (by simpa using hu))
                  have HXL := Lib.hid (show X.toList.length = 1 * 27 by simp [HXZ.out])
                  have HBY := Lib.hid (show (0 + 1) * ip.bytes ≤ 140737488355328 from by have := Nat.mul_le_mul (show 0 + 1 ≤ 1001 by omega) ip4; omega)
                  have hbb : b2w ≤ (WB.alloc (Obj.cells X 65)).heap.size := by simp; omega
                  clear ip1 ip2 ip3 ip4 ip5
                  go_upto_region 24 with (first | ((with_reducible refine at_load 65 ?_); refine wpList_load_part rfl 65 _ rfl (w3.heap.size) (0) rfl _ (X) _ _ 27 (HXW.out) Try.underlying65 rfl (by kernel_rfl) (by rw [HXZ.out]; omega) (X) (HXX2.out) ?_) | ((with_reducible refine at_slice1 62 ?_); refine wpList_slice1c rfl 62 65 _ rfl X 27 rfl HXZ.out ip zp Try.underlying62 HIP.out.1 HIP.out.2.1 HIP.out.2.2.1 HIP.out.2.2.2 (by omega) (by omega) ?_) | ((with_reducible refine at_append 62 ?_); refine wpList_append_own (WB.alloc (Obj.cells X 65)) rfl _ _ _ rfl b2w 65 ip zp 27 ip.bytes Try.underlying62 HIP.out.1 HIP.out.2.1 HIP.out.2.2.1 rfl HIP.out.2.2.2 (by omega) _ _ _ rfl HOWN.out ⟨WB.heap.size, 0, none⟩ 1 1 X.toList rfl HXL.out HXX.out HXB.out (by unfold maxLen; omega) HBY.out hbb ?_; intro v8 w8 ho8 hg8 _))
                  have hEa := HWE.out.1.below (below_new WB (Obj.cells X 65))
                  have hCa := HWE.out.2.kept (below_new WB (Obj.cells X 65))
                  obtain ⟨hC8, hd8⟩ := hCa.grown hEa hg8
                  have HCX := Lib.hid hC8
                  have HEX := Lib.hid (hEa.append hg8 ho8 HXC.out hd8)
                  have HIX := HGX
                  clear hEa hCa hC8 hd8 ho8 hg8 hbb hszW
                  have tX := HT.out _ HEX.out.be
                  by_cases hjd : j < n2
                  · obtain ⟨dg, dof, rfl, _⟩ := HR2.out.cell1 hjd
                    obtain ⟨db, hdb⟩ : ∃ db : Bool, (L2 j)[0]? = some (Value.bool db) := ⟨Bo (L2 j) 0, (HL2.out j).2⟩
                    have HD := Lib.hid (fun (w' : World) (hb : Below w.heap.size w w') => show w'.cell? ⟨dg, dof + j, none⟩ = some (.bool db) from by
                      obtain ⟨g', o', e, hc⟩ := (HR2.out.kept hb).cell1 hjd
                      injection e with e; injection e with e1 e2
                      rw [e1, e2, hc]; exact hdb)
                    clear hdb
                    have hjz : (j : Int) < n2 := by omega
                    cases db
                    · skip
                      go_wp2_with (first | (go_at_call 28; (with_reducible refine (cpub_q nn 10 (by unfold F64; omega) HCX.out).mono ?_); rintro e w15 ⟨⟨r5, rfl⟩, hq5⟩; obtain ⟨K5, c5, s5, b5, k5⟩ := hq5; have HC5 := Lib.hid c5; have HS5 := Lib.hid s5; have HE5 := Lib.hid (HEX.out.kv k5 b5); have t5 := HT.out w15 HE5.out.be; clear c5 s5 b5 k5) | (go_at_call 29; (with_reducible refine (chalt_q nn true HC5.out).mono ?_); rintro e w16 ⟨⟨r6, rfl⟩, hq6⟩; obtain ⟨K6, c6, s6, b6, k6⟩ := hq6; have HC6 := Lib.hid c6; have HS6 := Lib.hid s6; have HE6 := Lib.hid (HE5.out.kv k6 b6); have t6 := HT.out w16 HE6.out.be; clear c6 s6 b6 k6) | (go_at_call 29; (with_reducible refine (chalt_q nn false HC6.out).mono ?_); rintro e w17 ⟨⟨r7, rfl⟩, hq7⟩; obtain ⟨K7, c7, s7, b7, k7⟩ := hq7; have HC7 := Lib.hid c7; have HS7 := Lib.hid s7; have HE7 := Lib.hid (HE6.out.kv k7 b7); have t7 := HD.out w17 HE7.out.be; clear c7 s7 b7 k7) | (go_at_call 30; (with_reducible refine (cnext_ok HC7.out (by omega)).mono ?_); rintro e w18 ⟨rfl, c8, b8, k8⟩; have HC8 := Lib.hid c8; have HE8 := Lib.hid (HE7.out.kv k8 b8); clear c8 b8 k8))
                      exact close_round HJ.out (n1 - (j + 1)) (by omega) (ex_act ⟨j + 1, k, (0 + 1), day, K7, (snoc G 0 X), by omega, rfl, rfl, by omega, by omega, HC7.out, HIX.out.same (HS5.out.trans (HS6.out.trans HS7.out)), HE7.out⟩ (by rfl))
                    · skip
                      go_wp2_with (first | (go_at_call 28; (with_reducible refine (cpub_q nn 10 (by unfold F64; omega) HCX.out).mono ?_); rintro e w15 ⟨⟨r5, rfl⟩, hq5⟩; obtain ⟨K5, c5, s5, b5, k5⟩ := hq5; have HC5 := Lib.hid c5; have HS5 := Lib.hid s5; have HE5 := Lib.hid (HEX.out.kv k5 b5); have t5 := HT.out w15 HE5.out.be; clear c5 s5 b5 k5) | (go_at_call 29; (with_reducible refine (chalt_q nn true HC5.out).mono ?_); rintro e w16 ⟨⟨r6, rfl⟩, hq6⟩; obtain ⟨K6, c6, s6, b6, k6⟩ := hq6; have HC6 := Lib.hid c6; have HS6 := Lib.hid s6; have HE6 := Lib.hid (HE5.out.kv k6 b6); have t6 := HT.out w16 HE6.out.be; clear c6 s6 b6 k6) | (go_at_call 29; (with_reducible refine (chalt_q nn false HC6.out).mono ?_); rintro e w17 ⟨⟨r7, rfl⟩, hq7⟩; obtain ⟨K7, c7, s7, b7, k7⟩ := hq7; have HC7 := Lib.hid c7; have HS7 := Lib.hid s7; have HE7 := Lib.hid (HE6.out.kv k7 b7); have t7 := HD.out w17 HE7.out.be; clear c7 s7 b7 k7) | (go_at_call 30; (with_reducible refine (cnext_ok HC7.out (by omega)).mono ?_); rintro e w18 ⟨rfl, c8, b8, k8⟩; have HC8 := Lib.hid c8; have HE8 := Lib.hid (HE7.out.kv k8 b8); clear c8 b8 k8))
                      exact close_round HJ.out (n1 - (j + 1)) (by omega) (ex_act ⟨j + 1, k, (0 + 1), day + 1, K7, (snoc G 0 X), by omega, rfl, rfl, by omega, by omega, HC8.out, HIX.out.same (HS5.out.trans (HS6.out.trans HS7.out)), HE8.out⟩ (by rfl))
                  · have hjz : ¬ (j : Int) < n2 := by omega
                    have HD := Lib.hid (fun (w' : World) (hb : Below w.heap.size w w') => trivial)
                    go_wp2_with (first | (go_at_call 28; (with_reducible refine (cpub_q nn 10 (by unfold F64; omega) HCX.out).mono ?_); rintro e w15 ⟨⟨r5, rfl⟩, hq5⟩; obtain ⟨K5, c5, s5, b5, k5⟩ := hq5; have HC5 := Lib.hid c5; have HS5 := Lib.hid s5; have HE5 := Lib.hid (HEX.out.kv k5 b5); have t5 := HT.out w15 HE5.out.be; clear c5 s5 b5 k5) | (go_at_call 29; (with_reducible refine (chalt_q nn true HC5.out).mono ?_); rintro e w16 ⟨⟨r6, rfl⟩, hq6⟩; obtain ⟨K6, c6, s6, b6, k6⟩ := hq6; have HC6 := Lib.hid c6; have HS6 := Lib.hid s6; have HE6 := Lib.hid (HE5.out.kv k6 b6); have t6 := HT.out w16 HE6.out.be; clear c6 s6 b6 k6) | (go_at_call 29; (with_reducible refine (chalt_q nn false HC6.out).mono ?_); rintro e w17 ⟨⟨r7, rfl⟩, hq7⟩; obtain ⟨K7, c7, s7, b7, k7⟩ := hq7; have HC7 := Lib.hid c7; have HS7 := Lib.hid s7; have HE7 := Lib.hid (HE6.out.kv k7 b7); have t7 := HD.out w17 HE7.out.be; clear c7 s7 b7 k7) | (go_at_call 30; (with_reducible refine (cnext_ok HC7.out (by omega)).mono ?_); rintro e w18 ⟨rfl, c8, b8, k8⟩; have HC8 := Lib.hid c8; have HE8 := Lib.hid (HE7.out.kv k8 b8); clear c8 b8 k8))
                    exact close_round HJ.out (n1 - (j + 1)) (by omega) (ex_act ⟨j + 1, k, (0 + 1), day, K7, (snoc G 0 X), by omega, rfl, rfl, by omega, by omega, HC7.out, HIX.out.same (HS5.out.trans (HS6.out.trans HS7.out)), HE7.out⟩ (by rfl))
                · obtain ⟨mp, rfl⟩ : ∃ mp, m = mp + 1 := ⟨m - 1, by omega⟩
                  have hl := HLAST.out (by omega)
                  rw [show mp + 1 - 1 = mp from rfl] at hl
                  obtain ⟨hl1, hl2⟩ := hl
                  obtain ⟨ga9, gc9, e9, hR5, _⟩ := own_rows (c := 27) (fun t => (HE.out.gc t).size) hWE.1.own
                  injection e9 with e91 e92 e93
                  subst e91 e93
                  clear e92
                  obtain ⟨gg, goff, AG, frg, rfl, hgA, hsA, hxA⟩ := hR5 mp (by omega)
                  have hGc := HE.out.gc mp
                  have hxS : AG.extract (goff + mp * 27) (goff + mp * 27 + 25) = (G mp).extract 0 25 := by
                    have h2 := congrArg (fun B : Array Value => B.extract 0 25) hxA
                    simp only [Array.extract_extract] at h2
                    rw [show min (goff + mp * 27 + 25) (goff + mp * 27 + 27) = goff + mp * 27 + 25 by omega] at h2
                    simpa using h2
                  have HXS := Lib.hid hxS
                  have HSA := Lib.hid hsA
                  have HYZ := Lib.hid hGc.sp.size
                  have HYA := Lib.hid hGc.sp.all
                  have y0 : ((G mp).extract 0 25)[0]? = some (.int .u32 (N (G mp) 0)) := by rw [Array.getElem?_extract, if_pos (by have := hGc.size; omega)]; exact hGc.c0.1
                  have y23 : ((G mp).extract 0 25)[23]? = some (.int .u32 (N (G mp) 23)) := by rw [Array.getElem?_extract, if_pos (by have := hGc.size; omega)]; exact con_ld hGc
                  clear hR5 hxA hsA hxS hGc
                  generalize (G mp).extract 0 25 = Y at *
                  generalize N (G mp) 0 = yn at *
                  generalize N (G mp) 23 = yd at *
                  have hcXY := cellF (heap_up (o := Obj.cells Y 61) hXW)
                  by_cases heq : yd = xd
                  · have hl3 := hl2 heq
                    subst heq
                    clear hl2
                    go_upto_region 23 with (first | ((with_reducible refine at_load 61 ?_); refine wpList_load_part rfl 61 _ rfl (gg) (goff + mp * 27) rfl _ (AG) _ _ 25 (hgA) Try.underlying61 rfl (by kernel_rfl) (by have := HSA.out; omega) (Y) (HXS.out) ?_) | ((with_reducible refine at_alloc 61 ?_); refine wpList_alloc_named rfl 61 rfl (z25s) (by kernel_rfl) ?_) | ((with_reducible refine at_store 61 ?_); refine wpList_store_new rfl 61 _ _ rfl (Y) _ _ _ rfl (by simp) rfl (by rw [HYZ.out]; kernel_rfl) (by rw [HYZ.out]; rfl) (HYA.out) ?_))
                    have hWE2 := And.intro (hWE.1.below (below_new (w5.setCell ⟨w3.heap.size, 25, none⟩ (.int .u8 3)) (Obj.cells Y 61))) (hWE.2.kept (below_new (w5.setCell ⟨w3.heap.size, 25, none⟩ (.int .u8 3)) (Obj.cells Y 61)))
                    have hXW2 := heap_up (o := Obj.cells Y 61) hXW
                    clear hc5 hf5 k25 x0 x23 hcX HLAST hcXY hWE hXW hgA y0 y23
                    have hWE := hWE2
                    have hXW := hXW2
                    clear hWE2 hXW2
                    generalize (w5.setCell ⟨w3.heap.size, 25, none⟩ (.int .u8 3)).alloc (Obj.cells Y 61) = WB at *
                    have HWE := Lib.hid hWE
                    have HXW := Lib.hid hXW
                    have hszW := hWE.1.sz
                    clear hWE hXW
                    obtain ⟨ip, zp, ip1, ip2, ip3, ip4, ip5⟩ := info_con
                    have HIP := Lib.hid (And.intro ip1 (And.intro ip2 (And.intro ip3 ip5)))
                    have HOWN := Lib.hid (HWE.out.1.own.alloc (Obj.cells X 65))
                    have HXX := Lib.hid (fun j u (hj : X.toList[j]? = some u) => show (WB.alloc (Obj.cells X 65)).cell? ((⟨WB.heap.size, 0, none⟩ : Addr).add j) = some u from by
                      have h2 : (⟨WB.heap.size, 0, none⟩ : Addr).add j = ⟨WB.heap.size, j, none⟩ := by unfold Addr.add; split <;> simp_all
                      rw [h2, cellF (heap_alloc_new WB (Obj.cells X 65))]
                      simpa using hj)
                    have HXB := Lib.hid (fun u (hu : u ∈ X.toList) => show u.oneCell' = true from by have h1 := HXA.out; rw [Array.all_eq_true'] at h1; exact h1 u (by simpa using hu))
                    have HXL := Lib.hid (show X.toList.length = 1 * 27 by simp [HXZ.out])
                    have HBY := Lib.hid (show ((mp + 1) + 1) * ip.bytes ≤ 140737488355328 from by have := Nat.mul_le_mul (show (mp + 1) + 1 ≤ 1001 by omega) ip4; omega)
                    have hbb : b2w ≤ (WB.alloc (Obj.cells X 65)).heap.size := by simp; omega
                    clear ip1 ip2 ip3 ip4 ip5
                    go_upto_region 24 with (first | ((with_reducible refine at_load 65 ?_); refine wpList_load_part rfl 65 _ rfl (w3.heap.size) (0) rfl _ (X) _ _ 27 (HXW.out) Try.underlying65 rfl (by kernel_rfl) (by rw [HXZ.out]; omega) (X) (HXX2.out) ?_) | ((with_reducible refine at_slice1 62 ?_); refine wpList_slice1c rfl 62 65 _ rfl X 27 rfl HXZ.out ip zp Try.underlying62 HIP.out.1 HIP.out.2.1 HIP.out.2.2.1 HIP.out.2.2.2 (by omega) (by omega) ?_) | ((with_reducible refine at_append 62 ?_); refine wpList_append_own (WB.alloc (Obj.cells X 65)) rfl _ _ _ rfl b2w 65 ip zp 27 ip.bytes Try.underlying62 HIP.out.1 HIP.out.2.1 HIP.out.2.2.1 rfl HIP.out.2.2.2 (by omega) _ _ _ rfl HOWN.out ⟨WB.heap.size, 0, none⟩ 1 1 X.toList rfl HXL.out HXX.out HXB.out (by unfold maxLen; omega) HBY.out hbb ?_; intro v8 w8 ho8 hg8 _))
                    have hEa := HWE.out.1.below (below_new WB (Obj.cells X 65))
                    have hCa := HWE.out.2.kept (below_new WB (Obj.cells X 65))
                    obtain ⟨hC8, hd8⟩ := hCa.grown hEa hg8
                    have HCX := Lib.hid hC8
                    have HEX := Lib.hid (hEa.append hg8 ho8 HXC.out hd8)
                    have HIX := HGX
                    clear hEa hCa hC8 hd8 ho8 hg8 hbb hszW
                    have tX := HT.out _ HEX.out.be
                    by_cases hjd : j < n2
                    · obtain ⟨dg, dof, rfl, _⟩ := HR2.out.cell1 hjd
                      obtain ⟨db, hdb⟩ : ∃ db : Bool, (L2 j)[0]? = some (Value.bool db) := ⟨Bo (L2 j) 0, (HL2.out j).2⟩
                      have HD := Lib.hid (fun (w' : World) (hb : Below w.heap.size w w') => show w'.cell? ⟨dg, dof + j, none⟩ = some (.bool db) from by
                        obtain ⟨g', o', e, hc⟩ := (HR2.out.kept hb).cell1 hjd
                        injection e with e; injection e with e1 e2
                        rw [e1, e2, hc]; exact hdb)
                      clear hdb
                      have hjz : (j : Int) < n2 := by omega
                      cases db
                      · skip
                        go_wp2_with (first | (go_at_call 28; (with_reducible refine (cpub_q nn 10 (by unfold F64; omega) HCX.out).mono ?_); rintro e w15 ⟨⟨r5, rfl⟩, hq5⟩; obtain ⟨K5, c5, s5, b5, k5⟩ := hq5; have HC5 := Lib.hid c5; have HS5 := Lib.hid s5; have HE5 := Lib.hid (HEX.out.kv k5 b5); have t5 := HT.out w15 HE5.out.be; clear c5 s5 b5 k5) | (go_at_call 29; (with_reducible refine (chalt_q nn true HC5.out).mono ?_); rintro e w16 ⟨⟨r6, rfl⟩, hq6⟩; obtain ⟨K6, c6, s6, b6, k6⟩ := hq6; have HC6 := Lib.hid c6; have HS6 := Lib.hid s6; have HE6 := Lib.hid (HE5.out.kv k6 b6); have t6 := HT.out w16 HE6.out.be; clear c6 s6 b6 k6) | (go_at_call 29; (with_reducible refine (chalt_q nn false HC6.out).mono ?_); rintro e w17 ⟨⟨r7, rfl⟩, hq7⟩; obtain ⟨K7, c7, s7, b7, k7⟩ := hq7; have HC7 := Lib.hid c7; have HS7 := Lib.hid s7; have HE7 := Lib.hid (HE6.out.kv k7 b7); have t7 := HD.out w17 HE7.out.be; clear c7 s7 b7 k7) | (go_at_call 30; (with_reducible refine (cnext_ok HC7.out (by omega)).mono ?_); rintro e w18 ⟨rfl, c8, b8, k8⟩; have HC8 := Lib.hid c8; have HE8 := Lib.hid (HE7.out.kv k8 b8); clear c8 b8 k8))
                        exact close_round HJ.out (n1 - (j + 1)) (by omega) (ex_act ⟨j + 1, k, ((mp + 1) + 1), day, K7, (snoc G (mp + 1) X), by omega, rfl, rfl, by omega, by omega, HC7.out, HIX.out.same (HS5.out.trans (HS6.out.trans HS7.out)), HE7.out⟩ (by rfl))
                      · skip
                        go_wp2_with (first | (go_at_call 28; (with_reducible refine (cpub_q nn 10 (by unfold F64; omega) HCX.out).mono ?_); rintro e w15 ⟨⟨r5, rfl⟩, hq5⟩; obtain ⟨K5, c5, s5, b5, k5⟩ := hq5; have HC5 := Lib.hid c5; have HS5 := Lib.hid s5; have HE5 := Lib.hid (HEX.out.kv k5 b5); have t5 := HT.out w15 HE5.out.be; clear c5 s5 b5 k5) | (go_at_call 29; (with_reducible refine (chalt_q nn true HC5.out).mono ?_); rintro e w16 ⟨⟨r6, rfl⟩, hq6⟩; obtain ⟨K6, c6, s6, b6, k6⟩ := hq6; have HC6 := Lib.hid c6; have HS6 := Lib.hid s6; have HE6 := Lib.hid (HE5.out.kv k6 b6); have t6 := HT.out w16 HE6.out.be; clear c6 s6 b6 k6) | (go_at_call 29; (with_reducible refine (chalt_q nn false HC6.out).mono ?_); rintro e w17 ⟨⟨r7, rfl⟩, hq7⟩; obtain ⟨K7, c7, s7, b7, k7⟩ := hq7; have HC7 := Lib.hid c7; have HS7 := Lib.hid s7; have HE7 := Lib.hid (HE6.out.kv k7 b7); have t7 := HD.out w17 HE7.out.be; clear c7 s7 b7 k7) | (go_at_call 30; (with_reducible refine (cnext_ok HC7.out (by omega)).mono ?_); rintro e w18 ⟨rfl, c8, b8, k8⟩; have HC8 := Lib.hid c8; have HE8 := Lib.hid (HE7.out.kv k8 b8); clear c8 b8 k8))
                        exact close_round HJ.out (n1 - (j + 1)) (by omega) (ex_act ⟨j + 1, k, ((mp + 1) + 1), day + 1, K7, (snoc G (mp + 1) X), by omega, rfl, rfl, by omega, by omega, HC8.out, HIX.out.same (HS5.out.trans (HS6.out.trans HS7.out)), HE8.out⟩ (by rfl))
                    · have hjz : ¬ (j : Int) < n2 := by omega
                      have HD := Lib.hid (fun (w' : World) (hb : Below w.heap.size w w') => trivial)
                      go_wp2_with (first | (go_at_call 28; (with_reducible refine (cpub_q nn 10 (by unfold F64; omega) HCX.out).mono ?_); rintro e w15 ⟨⟨r5, rfl⟩, hq5⟩; obtain ⟨K5, c5, s5, b5, k5⟩ := hq5; have HC5 := Lib.hid c5; have HS5 := Lib.hid s5; have HE5 := Lib.hid (HEX.out.kv k5 b5); have t5 := HT.out w15 HE5.out.be; clear c5 s5 b5 k5) | (go_at_call 29; (with_reducible refine (chalt_q nn true HC5.out).mono ?_); rintro e w16 ⟨⟨r6, rfl⟩, hq6⟩; obtain ⟨K6, c6, s6, b6, k6⟩ := hq6; have HC6 := Lib.hid c6; have HS6 := Lib.hid s6; have HE6 := Lib.hid (HE5.out.kv k6 b6); have t6 := HT.out w16 HE6.out.be; clear c6 s6 b6 k6) | (go_at_call 29; (with_reducible refine (chalt_q nn false HC6.out).mono ?_); rintro e w17 ⟨⟨r7, rfl⟩, hq7⟩; obtain ⟨K7, c7, s7, b7, k7⟩ := hq7; have HC7 := Lib.hid c7; have HS7 := Lib.hid s7; have HE7 := Lib.hid (HE6.out.kv k7 b7); have t7 := HD.out w17 HE7.out.be; clear c7 s7 b7 k7) | (go_at_call 30; (with_reducible refine (cnext_ok HC7.out (by omega)).mono ?_); rintro e w18 ⟨rfl, c8, b8, k8⟩; have HC8 := Lib.hid c8; have HE8 := Lib.hid (HE7.out.kv k8 b8); clear c8 b8 k8))
                      exact close_round HJ.out (n1 - (j + 1)) (by omega) (ex_act ⟨j + 1, k, ((mp + 1) + 1), day, K7, (snoc G (mp + 1) X), by omega, rfl, rfl, by omega, by omega, HC7.out, HIX.out.same (HS5.out.trans (HS6.out.trans HS7.out)), HE7.out⟩ (by rfl))
                  · have heq' : (yd == xd) = false := by simp [heq]
                    clear hl2
                    go_upto_region 23 with (first | ((with_reducible refine at_load 61 ?_); refine wpList_load_part rfl 61 _ rfl (gg) (goff + mp * 27) rfl _ (AG) _ _ 25 (hgA) Try.underlying61 rfl (by kernel_rfl) (by have := HSA.out; omega) (Y) (HXS.out) ?_) | ((with_reducible refine at_alloc 61 ?_); refine wpList_alloc_named rfl 61 rfl (z25s) (by kernel_rfl) ?_) | ((with_reducible refine at_store 61 ?_); refine wpList_store_new rfl 61 _ _ rfl (Y) _ _ _ rfl (by simp) rfl (by rw [HYZ.out]; kernel_rfl) (by rw [HYZ.out]; rfl) (HYA.out) ?_))
                    have hWE2 := And.intro (hWE.1.below (below_new (w5.setCell ⟨w3.heap.size, 25, none⟩ (.int .u8 3)) (Obj.cells Y 61))) (hWE.2.kept (below_new (w5.setCell ⟨w3.heap.size, 25, none⟩ (.int .u8 3)) (Obj.cells Y 61)))
                    have hXW2 := heap_up (o := Obj.cells Y 61) hXW
                    clear hc5 hf5 k25 x0 x23 hcX HLAST hcXY hWE hXW hgA y0 y23
                    have hWE := hWE2
                    have hXW := hXW2
                    clear hWE2 hXW2
                    generalize (w5.setCell ⟨w3.heap.size, 25, none⟩ (.int .u8 3)).alloc (Obj.cells Y 61) = WB at *
                    have HWE := Lib.hid hWE
                    have HXW := Lib.hid hXW
                    have hszW := hWE.1.sz
                    clear hWE hXW
                    obtain ⟨ip, zp, ip1, ip2, ip3, ip4, ip5⟩ := info_con
                    have HIP := Lib.hid (And.intro ip1 (And.intro ip2 (And.intro ip3 ip5)))
                    have HOWN := Lib.hid (HWE.out.1.own.alloc (Obj.cells X 65))
                    have HXX := Lib.hid (fun j u (hj : X.toList[j]? = some u) => show (WB.alloc (Obj.cells X 65)).cell? ((⟨WB.heap.size, 0, none⟩ : Addr).add j) = some u from by
                      have h2 : (⟨WB.heap.size, 0, none⟩ : Addr).add j = ⟨WB.heap.size, j, none⟩ := by unfold Addr.add; split <;> simp_all
                      rw [h2, cellF (heap_alloc_new WB (Obj.cells X 65))]
                      simpa using hj)
                    have HXB := Lib.hid (fun u (hu : u ∈ X.toList) => show u.oneCell' = true from by have h1 := HXA.out; rw [Array.all_eq_true'] at h1; exact h1 u (by simpa using hu))
                    have HXL := Lib.hid (show X.toList.length = 1 * 27 by simp [HXZ.out])
                    have HBY := Lib.hid (show ((mp + 1) + 1) * ip.bytes ≤ 140737488355328 from by have := Nat.mul_le_mul (show (mp + 1) + 1 ≤ 1001 by omega) ip4; omega)
                    have hbb : b2w ≤ (WB.alloc (Obj.cells X 65)).heap.size := by simp; omega
                    clear ip1 ip2 ip3 ip4 ip5
                    go_upto_region 24 with (first | ((with_reducible refine at_load 65 ?_); refine wpList_load_part rfl 65 _ rfl (w3.heap.size) (0) rfl _ (X) _ _ 27 (HXW.out) Try.underlying65 rfl (by kernel_rfl) (by rw [HXZ.out]; omega) (X) (HXX2.out) ?_) | ((with_reducible refine at_slice1 62 ?_); refine wpList_slice1c rfl 62 65 _ rfl X 27 rfl HXZ.out ip zp Try.underlying62 HIP.out.1 HIP.out.2.1 HIP.out.2.2.1 HIP.out.2.2.2 (by omega) (by omega) ?_) | ((with_reducible refine at_append 62 ?_); refine wpList_append_own (WB.alloc (Obj.cells X 65)) rfl _ _ _ rfl b2w 65 ip zp 27 ip.bytes Try.underlying62 HIP.out.1 HIP.out.2.1 HIP.out.2.2.1 rfl HIP.out.2.2.2 (by omega) _ _ _ rfl HOWN.out ⟨WB.heap.size, 0, none⟩ 1 1 X.toList rfl HXL.out HXX.out HXB.out (by unfold maxLen; omega) HBY.out hbb ?_; intro v8 w8 ho8 hg8 _))
                    have hEa := HWE.out.1.below (below_new WB (Obj.cells X 65))
                    have hCa := HWE.out.2.kept (below_new WB (Obj.cells X 65))
                    obtain ⟨hC8, hd8⟩ := hCa.grown hEa hg8
                    have HCX := Lib.hid hC8
                    have HEX := Lib.hid (hEa.append hg8 ho8 HXC.out hd8)
                    have HIX := HGX
                    clear hEa hCa hC8 hd8 ho8 hg8 hbb hszW
                    have tX := HT.out _ HEX.out.be
                    by_cases hjd : j < n2
                    · obtain ⟨dg, dof, rfl, _⟩ := HR2.out.cell1 hjd
                      obtain ⟨db, hdb⟩ : ∃ db : Bool, (L2 j)[0]? = some (Value.bool db) := ⟨Bo (L2 j) 0, (HL2.out j).2⟩
                      have HD := Lib.hid (fun (w' : World) (hb : Below w.heap.size w w') => show w'.cell? ⟨dg, dof + j, none⟩ = some (.bool db) from by
                        obtain ⟨g', o', e, hc⟩ := (HR2.out.kept hb).cell1 hjd
                        injection e with e; injection e with e1 e2
                        rw [e1, e2, hc]; exact hdb)
                      clear hdb
                      have hjz : (j : Int) < n2 := by omega
                      cases db
                      · skip
                        go_wp2_with (first | (go_at_call 28; (with_reducible refine (cpub_q nn 10 (by unfold F64; omega) HCX.out).mono ?_); rintro e w15 ⟨⟨r5, rfl⟩, hq5⟩; obtain ⟨K5, c5, s5, b5, k5⟩ := hq5; have HC5 := Lib.hid c5; have HS5 := Lib.hid s5; have HE5 := Lib.hid (HEX.out.kv k5 b5); have t5 := HT.out w15 HE5.out.be; clear c5 s5 b5 k5) | (go_at_call 29; (with_reducible refine (chalt_q nn true HC5.out).mono ?_); rintro e w16 ⟨⟨r6, rfl⟩, hq6⟩; obtain ⟨K6, c6, s6, b6, k6⟩ := hq6; have HC6 := Lib.hid c6; have HS6 := Lib.hid s6; have HE6 := Lib.hid (HE5.out.kv k6 b6); have t6 := HT.out w16 HE6.out.be; clear c6 s6 b6 k6) | (go_at_call 29; (with_reducible refine (chalt_q nn false HC6.out).mono ?_); rintro e w17 ⟨⟨r7, rfl⟩, hq7⟩; obtain ⟨K7, c7, s7, b7, k7⟩ := hq7; have HC7 := Lib.hid c7; have HS7 := Lib.hid s7; have HE7 := Lib.hid (HE6.out.kv k7 b7); have t7 := HD.out w17 HE7.out.be; clear c7 s7 b7 k7) | (go_at_call 30; (with_reducible refine (cnext_ok HC7.out (by omega)).mono ?_); rintro e w18 ⟨rfl, c8, b8, k8⟩; have HC8 := Lib.hid c8; have HE8 := Lib.hid (HE7.out.kv k8 b8); clear c8 b8 k8))
                        exact close_round HJ.out (n1 - (j + 1)) (by omega) (ex_act ⟨j + 1, k, ((mp + 1) + 1), day, K7, (snoc G (mp + 1) X), by omega, rfl, rfl, by omega, by omega, HC7.out, HIX.out.same (HS5.out.trans (HS6.out.trans HS7.out)), HE7.out⟩ (by rfl))
                      · skip
                        go_wp2_with (first | (go_at_call 28; (with_reducible refine (cpub_q nn 10 (by unfold F64; omega) HCX.out).mono ?_); rintro e w15 ⟨⟨r5, rfl⟩, hq5⟩; obtain ⟨K5, c5, s5, b5, k5⟩ := hq5; have HC5 := Lib.hid c5; have HS5 := Lib.hid s5; have HE5 := Lib.hid (HEX.out.kv k5 b5); have t5 := HT.out w15 HE5.out.be; clear c5 s5 b5 k5) | (go_at_call 29; (with_reducible refine (chalt_q nn true HC5.out).mono ?_); rintro e w16 ⟨⟨r6, rfl⟩, hq6⟩; obtain ⟨K6, c6, s6, b6, k6⟩ := hq6; have HC6 := Lib.hid c6; have HS6 := Lib.hid s6; have HE6 := Lib.hid (HE5.out.kv k6 b6); have t6 := HT.out w16 HE6.out.be; clear c6 s6 b6 k6) | (go_at_call 29; (with_reducible refine (chalt_q nn false HC6.out).mono ?_); rintro e w17 ⟨⟨r7, rfl⟩, hq7⟩; obtain ⟨K7, c7, s7, b7, k7⟩ := hq7; have HC7 := Lib.hid c7; have HS7 := Lib.hid s7; have HE7 := Lib.hid (HE6.out.kv k7 b7); have t7 := HD.out w17 HE7.out.be; clear c7 s7 b7 k7) | (go_at_call 30; (with_reducible refine (cnext_ok HC7.out (by omega)).mono ?_); rintro e w18 ⟨rfl, c8, b8, k8⟩; have HC8 := Lib.hid c8; have HE8 := Lib.hid (HE7.out.kv k8 b8); clear c8 b8 k8))
                        exact close_round HJ.out (n1 - (j + 1)) (by omega) (ex_act ⟨j + 1, k, ((mp + 1) + 1), day + 1, K7, (snoc G (mp + 1) X), by omega, rfl, rfl, by omega, by omega, HC8.out, HIX.out.same (HS5.out.trans (HS6.out.trans HS7.out)), HE8.out⟩ (by rfl))
                    · have hjz : ¬ (j : Int) < n2 := by omega
                      have HD := Lib.hid (fun (w' : World) (hb : Below w.heap.size w w') => trivial)
                      go_wp2_with (first | (go_at_call 28; (with_reducible refine (cpub_q nn 10 (by unfold F64; omega) HCX.out).mono ?_); rintro e w15 ⟨⟨r5, rfl⟩, hq5⟩; obtain ⟨K5, c5, s5, b5, k5⟩ := hq5; have HC5 := Lib.hid c5; have HS5 := Lib.hid s5; have HE5 := Lib.hid (HEX.out.kv k5 b5); have t5 := HT.out w15 HE5.out.be; clear c5 s5 b5 k5) | (go_at_call 29; (with_reducible refine (chalt_q nn true HC5.out).mono ?_); rintro e w16 ⟨⟨r6, rfl⟩, hq6⟩; obtain ⟨K6, c6, s6, b6, k6⟩ := hq6; have HC6 := Lib.hid c6; have HS6 := Lib.hid s6; have HE6 := Lib.hid (HE5.out.kv k6 b6); have t6 := HT.out w16 HE6.out.be; clear c6 s6 b6 k6) | (go_at_call 29; (with_reducible refine (chalt_q nn false HC6.out).mono ?_); rintro e w17 ⟨⟨r7, rfl⟩, hq7⟩; obtain ⟨K7, c7, s7, b7, k7⟩ := hq7; have HC7 := Lib.hid c7; have HS7 := Lib.hid s7; have HE7 := Lib.hid (HE6.out.kv k7 b7); have t7 := HD.out w17 HE7.out.be; clear c7 s7 b7 k7) | (go_at_call 30; (with_reducible refine (cnext_ok HC7.out (by omega)).mono ?_); rintro e w18 ⟨rfl, c8, b8, k8⟩; have HC8 := Lib.hid c8; have HE8 := Lib.hid (HE7.out.kv k8 b8); clear c8 b8 k8))
                      exact close_round HJ.out (n1 - (j + 1)) (by omega) (ex_act ⟨j + 1, k, ((mp + 1) + 1), day, K7, (snoc G (mp + 1) X), by omega, rfl, rfl, by omega, by omega, HC7.out, HIX.out.same (HS5.out.trans (HS6.out.trans HS7.out)), HE7.out⟩ (by rfl))
        · obtain rfl : j = n1 := by omega
          clear hJ hK hGR
          have HC := Lib.hid hC
          have HI := Lib.hid hI
          have HE := Lib.hid hE
          clear hC hI hE
          go_wp2_with fail
          refine wp_loop_ghost_k (fun gh ac wr => ∃ (u : Nat → Value), FREL3 m k w w.heap.size b2w v0 (.slice gga m ggc) day K G gh (u 155) wr ∧ ac = { tmps := #[u 0, u 1, u 2, u 3, u 4, u 5, u 6, .pointer (some ⟨w.heap.size, 0, none⟩), u 8, .slice gga m ggc, u 10, u 11, u 12, u 13, u 14, u 15, u 16, u 17, u 18, u 19, u 20, u 21, u 22, u 23, u 24, u 25, u 26, u 27, u 28, u 29, u 30, u 31, u 32, u 33, u 34, u 35, u 36, u 37, u 38, u 39, u 40, u 41, u 42, u 43, u 44, u 45, u 46, u 47, u 48, u 49, u 50, u 51, u 52, u 53, u 54, u 55, u 56, u 57, u 58, u 59, u 60, u 61, u 62, u 63, u 64, u 65, u 66, u 67, u 68, u 69, u 70, u 71, u 72, u 73, u 74, u 75, u 76, u 77, u 78, u 79, u 80, u 81, u 82, u 83, u 84, u 85, u 86, u 87, u 88, u 89, u 90, u 91, u 92, u 93, u 94, u 95, u 96, u 97, u 98, u 99, u 100, u 101, u 102, u 103, u 104, u 105, u 106, u 107, u 108, u 109, u 110, u 111, u 112, u 113, u 114, u 115, u 116, u 117, u 118, u 119, u 120, u 121, u 122, u 123, u 124, u 125, u 126, u 127, u 128, u 129, u 130, u 131, u 132, u 133, u 134, u 135, u 136, u 137, u 138, u 139, u 140, u 141, u 142, u 143, u 144, u 145, u 146, u 147, u 148, u 149, u 150, u 151, u 152, u 153, .int .i64 m, u 155, u 156, u 157, u 158, u 159, u 160, u 161, u 162, u 163, u 164, u 165, u 166, u 167, u 168, u 169, u 170, u 171, u 172, u 173, u 174, u 175, u 176, u 177, u 178, u 179, u 180], defers := [] }) m ?atStart3 ?round3
          case atStart3 =>
            refine ex_act ?_ (by rfl)
            exact ⟨0, by omega, rfl, rfl, HC.out, HE.out⟩
          case round3 =>
            clear HC HE
            rintro gh ac wr3 ⟨u, ⟨t, ht, rfl, e155, hC, hE⟩, rfl⟩ J K9 hJ hK
            rw [e155]
            clear e155
            have HJ := Lib.hid hJ
            have HC := Lib.hid hC
            have HE := Lib.hid hE
            clear hJ
            by_cases hlt : t < m
            · obtain ⟨p, hp, hKp, _⟩ := HI.out.a t hlt
              obtain ⟨ga9, gc9, e9, hR5, _⟩ := own_rows (c := 27) (fun t => (HE.out.gc t).size) hE.own
              injection e9 with e91 e92 e93
              subst e91 e93
              clear e92
              obtain ⟨gg, goff, AG, frg, rfl, hgA, hsA, hxA⟩ := hR5 t hlt
              have hfr : frg = (0, 0) := by
                obtain ⟨_, ⟨hv, _⟩ | ⟨gx, cap, cur, hv, _, hgx, _⟩⟩ := hE.own
                · injection hv with hv; cases hv
                · cases hv
                  rw [hgA] at hgx
                  cases hgx
                  rfl
              subst hfr
              have hGc := HE.out.gc t
              have HMZ := Lib.hid hGc.size
              have HMA := Lib.hid hGc.all
              have HMX := Lib.hid (extract_all hGc.size)
              have hnq := fun W => neq_con hGc W
              have hn0 := hGc.c0.1
              have hcell : AG[goff + t * 27]? = some (.int .u32 (N (G t) 0)) := by
                rw [← hn0, ← hxA, Array.getElem?_extract, if_pos (by omega), Nat.add_zero]
              have cg := cellF hgA
              have cget := cget_in (n := N (G t) 0) hC hp (by rw [hKp])
              rw [hKp] at cget
              have HXA := Lib.hid hxA
              have HSA := Lib.hid hsA
              have HCZ := Lib.hid cz_size
              clear hC hE hR5 hGc hxA hsA hKp hn0
              generalize N (G t) 0 = nn at *
              generalize G t = M at *
              go_wp2_with (first | (go_at_call 26; (with_reducible refine (cget).mono ?_); rintro e w4 ⟨rfl, hb4⟩; have hgA4 := Ytobokknfpjjdeaa.kept hb4 hgA; have HE4 := Lib.hid (HE.out.below hb4); have HC4 := Lib.hid (HC.out.kept hb4); clear hb4) | ((with_reducible refine at_alloc 65 ?_); refine wpList_alloc_named rfl 65 rfl cz (by kernel_rfl) ?_) | ((with_reducible refine at_store 65 ?_); refine wpList_store_over rfl 65 _ _ rfl (w4.heap.size) (M) rfl rfl _ _ (heap_alloc_new _ _) (by rw [HMZ.out]; kernel_rfl) (by rw [HMZ.out]; exact HCZ.out) (HMA.out) ?_; intro w5 hg5 hs5 ho5 hb5; have hb45 := (below_new w4 (Obj.cells cz 65)).trans (hb5 _ (Nat.le_refl _)); have HE5 := Lib.hid (HE4.out.below hb45); have HC5 := Lib.hid (HC4.out.kept hb45); have hgA5 := Ytobokknfpjjdeaa.kept hb45 hgA4; clear hs5 ho5 hb5 hb45))
              refine wp_region_below (by kernel_rfl) (by kernel_rfl) ?_
              repeat (first | ((with_reducible apply q_skip); (case hw => rfl); (try simp only [Act.put, List.setIfInBounds_toArray, List.set_cons_zero, List.set_cons_succ])) | ((with_reducible refine at_qload 65 ?_); refine q_load_part (by rfl) 65 _ rfl (w4.heap.size) (0) rfl _ (M) _ 27 (hg5) Try.underlying65 rfl (by kernel_rfl) (by rw [HMZ.out]; omega) (M) (HMX.out) ?_; try simp only [Act.put, List.setIfInBounds_toArray, List.set_cons_zero, List.set_cons_succ]) | ((with_reducible refine at_qload 65 ?_); refine q_load_part (by rfl) 65 _ rfl (gg) (goff + t * 27) rfl _ (AG) _ 27 (hgA5) Try.underlying65 rfl (by kernel_rfl) (HSA.out) (M) (HXA.out) ?_; try simp only [Act.put, List.setIfInBounds_toArray, List.set_cons_zero, List.set_cons_succ]) | ((with_reducible apply q_val); (case hw => rfl); (case hv => intro wq hbq; go_simp; try rfl); (try simp only [Act.put, List.setIfInBounds_toArray, List.set_cons_zero, List.set_cons_succ])))
              refine q_nil ?_
              intro w6 hb6
              go_wp2_with fail
              exact close_round HJ.out (m - (t + 1)) (by omega) (ex_act ⟨t + 1, by omega, rfl, rfl, HC5.out.kept hb6, HE5.out.below hb6⟩ (by rfl))
            · obtain rfl : t = m := by omega
              clear hC hK
              have hbe := hE.be
              clear hE
              go_wp2_with ((go_at_call 24; (with_reducible refine (known05 _).mono ?_); rintro e w9 ⟨rfl, hb9⟩))
              go_ret
              exact ⟨rfl, below_then hbe hb9⟩
end Go.Proofs.Ytobokknfpjjdeaa
