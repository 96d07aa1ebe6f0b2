/- The statement ScanSums returns true, whatever comes in. No condition but that the numbers fit their kinds. -/
import Derived.Test.YtodbbcagpfjieaaRoutesW
import Derived.Test.YtodbbcagpfjieaaRowed
namespace Go.Proofs.Ytodbbcagpfjieaa
set_option linter.unusedVariables false
set_option linter.unusedSimpArgs false
open Go.RowKit

theorem own_empty_b (W : World) (e : TypeId) {base : Nat} (hb : base ≤ W.heap.size) : (W.alloc (.cells #[] e)).ownsRow base e 26 (.slice (some ⟨W.heap.size, 0, none⟩) 0 0) 0 [] :=
  ⟨rfl, .inr ⟨W.heap.size, 0, #[], rfl, hb, heap_alloc_new _ _, Nat.le_refl _, by unfold maxLen; omega, rfl, rfl⟩⟩
theorem row_below {w w1 : World} {base n s : Nat} {e : TypeId} {v : Value} {xs : List Value} (h : w.ownsRow base e s v n xs) (hb : Below w.heap.size w w1) : w1.ownsRow base e s v n xs := by
  refine ⟨h.1, ?_⟩
  rcases h.2 with hn | ⟨g, cap, cur, rfl, hbg, hg, rest⟩
  · exact .inl hn
  · exact .inr ⟨g, cap, cur, rfl, hbg, kept hb hg, rest⟩
theorem Off.next2 {v v' u : Value} {w : World} (h : Off v u) (hu : ∀ g, u.ownBlock = some g → g < w.heap.size) (hv : v'.ownBlock = v.ownBlock ∨ v'.ownBlock = some w.heap.size) : Off v' u := fun g h1 h2 => by
  rcases hv with hv | hv
  · exact h g (hv ▸ h1) h2
  · rw [hv] at h1
    injection h1 with h1
    have := hu g h2
    omega
theorem wpList_build_leg {ops : Array Oper} {rest : List Oper} {o : Oper} {a : Act} {w : World} {Q : Exit → Act → World → Prop} (hgd : Region.wanted o (yielded ops a.tmps) = true) (x : Operand) (ho : o.op = .build 45 #[(0, x)])
    (A : Array Value) (hx : a.eval x = .agg A) (hA : A.size = 25)
    (h : wpList Try.prog ops Q rest (a.put o.dst (.agg (leg0 A))) w) : wpList Try.prog ops Q (o :: rest) a w :=
  wpList_build_named hgd 45 #[(0, x)] ho (leg0 A) (by simp only [List.map_toArray, List.map_cons, List.map_nil, hx]; exact built_leg hA) h
theorem mix_next (L : Nat → Array Value) (k i : Nat) : (if i = k then (mix L k k).setIfInBounds 22 (.int .i64 0) else mix L k i) = mix L (k + 1) i := by
  unfold mix
  by_cases e : i = k
  · subst e
    rw [if_pos rfl, if_neg (by omega), if_pos (by omega)]
    rfl
  · rw [if_neg e]
    by_cases h : i < k
    · rw [if_pos h, if_pos (by omega)]
    · rw [if_neg h, if_neg (by omega)]
theorem more_val {s z h : Int} (hz : h = 0 → z = s) : (h != 0 || z == s) = true := by
  by_cases e : h = 0
  · simp [hz e]
  · simp [e]

set_option maxRecDepth 100000 in
set_option maxHeartbeats 2000000 in
theorem sums_walk (a : Option Addr) (n cap : Nat) (L : Nat → Array Value) (A : Array Value) (W : World) (hL : ∀ i, IsLeg (L i)) (hA : Legs W a n L) (hn : n ≤ cap) (hc : cap ≤ 9223372036854775807) (hz : a = none → n = 0 ∧ cap = 0) (hsp : IsSpec A) :
    Calls Try.prog 8 #[.slice a n cap, .agg A] W fun e W' => e = .returned (.bool true) ∧ Below W.heap.size W W' := by
  have cm := fun w0 hb => margin_any (H := Unit) L a n cap w0 hL (hA.kept hb) (by omega)
  by_cases he : mE L n = 0
  · obtain ⟨hn16, hok, honce, hmn⟩ := mE_ok he
    rw [he, hmn] at cm
    have hbd := sum_bd hL n hok hn16 9
    by_cases h15 : 15 < n
    · generalize sumTo L n 9 = sm at *
      clear hok honce hmn he hL hA hz hsp
      by_cases hs0 : sm = 0
      · subst hs0
        go_enter Try.func8, Try.ntmps8
        go_wp2_with fail
        refine (cm _ (below_new _ _)).mono ?_
        rintro e1 w1 ⟨rfl, hb1⟩
        go_wp2_with (first | (go_at_call 16; (with_reducible refine (known10 _).mono ?_); rintro e w5 ⟨rfl, hb5⟩))
        go_ret
        exact ⟨rfl, below_then (below_then (below_new _ _) hb1) hb5⟩
      · have hs0' : (sm == 0) = false := by simpa using hs0
        go_enter Try.func8, Try.ntmps8
        go_wp2_with fail
        refine (cm _ (below_new _ _)).mono ?_
        rintro e1 w1 ⟨rfl, hb1⟩
        go_wp2_with (first | (go_at_call 16; (with_reducible refine (known10 _).mono ?_); rintro e w5 ⟨rfl, hb5⟩))
        go_ret
        exact ⟨rfl, below_then (below_then (below_new _ _) hb1) hb5⟩
    · have HL := Lib.hid hL
      have HO := Lib.hid hok
      have HN := Lib.hid honce
      have HZ := Lib.hid hz
      have HSP := Lib.hid hsp
      have hft := sum_fre hL n hok 9
      rw [scs_tot hL n hok] at hft
      have htb := tot_bd hL n hok
      have HFT := Lib.hid hft
      have HAW := Lib.hid hA
      clear hok honce hz hsp hft hL hA he hmn
      have hle := HFT.out.2
      go_enter Try.func8, Try.ntmps8
      go_wp2_with fail
      refine (cm _ (below_new _ _)).mono ?_
      clear cm
      obtain ⟨w0, hw0⟩ : ∃ w0, w0 = W.alloc (.cells A 25) := ⟨_, rfl⟩
      rw [← hw0]
      have hbox : w0.heap[W.heap.size]? = some (.cells A 25 (0, 0)) := by rw [hw0]; exact heap_alloc_new _ _
      have hb0 : Below W.heap.size W w0 := by rw [hw0]; exact below_new _ _
      have hA0 := HAW.out.kept hb0
      have HA := Lib.hid hA0
      clear hw0 hA0
      rintro e1 w1 ⟨rfl, hb1⟩
      have hs1 := hb1.size
      go_wp2_with (first
        | ((with_reducible refine at_append 42 ?_); refine wpList_append_legs rfl _ _ rfl w0.heap.size (.slice (some ⟨w1.heap.size, 0, none⟩) 0 0) 0 [] rfl (own_empty_b w1 _ hs1) a n cap L HL.out rfl ((HA.out.kept hb1).kept (below_new _ _)) HZ.out (by omega) (by simp; omega) ?_; intro v2 w2 hown2 hgr2) | fail)
      obtain ⟨af, cf, rfl, hof⟩ := own_rows HL.out (by simpa using hown2)
      have hb2 : Below w0.heap.size w0 w2 := (below_then hb1 (below_new _ _)).grown hgr2 (by simp; omega) (fun k hk => by cases hk; exact hs1)
      clear hown2 hgr2 hb1 hs1
      generalize hsm : sumTo L n 9 = sm at *
      have HSM := Lib.hid hsm
      clear hsm
      go_loopg [7, 8, 48] n (fun gh xb s i wr => ∃ (k : Nat) (vb : Value), k ≤ n ∧ gh = n - k ∧ i = .int .i64 k ∧ s = .int .i64 (tot L k) ∧ vb = xb ∧ wr.ownsRow w0.heap.size 45 26 vb k (flat (rv L n) k) ∧
        Own wr w0.heap.size af n (mix L k) ∧ Off vb (.slice af n cf) ∧ Below w0.heap.size w0 wr)
      case atStart => exact ⟨0, _, by omega, by omega, rfl, rfl, rfl, World.ownsRow_nil _ _ _ _, hof.congr (fun i hi => by simp [mix]), fun g h => by simp [Value.ownBlock] at h, hb2⟩
      case round =>
        clear hb2 hof
        obtain ⟨k, vb, hk, rfl, rfl, rfl, rfl, hob, hof, hap, hb⟩ := hrel
        have hbs := hb.size
        by_cases hlt : k < n
        · obtain ⟨g, off, C, t, fr, rfl, hgC2, hszC2, hexC2⟩ := (HA.out.kept hb) (n - 1 - k) (by omega)
          have hmk : n - 1 - k < n := by omega
          have hleg := HL.out k
          have hlegm := HL.out (n - 1 - k)
          obtain ⟨gf, cur, rfl, hbf, hgf, hszf, hcf⟩ := hof.at hlt
          have HE2 := Lib.hid hexC2
          have HS2 := Lib.hid hszC2
          have hokk := okTo_at HO.out hlt
          obtain ⟨sc1, sc2⟩ := scan_leg hleg hokk
          obtain ⟨hsw, hq7, _⟩ := okLeg_facts hleg hokk
          have hwk := wk_bd7 hq7 hsw 16 (by omega)
          have cs := fun w => scan_any (ls L k) (lq L k) w (ls_sh hleg) (by unfold F64; omega)
          rw [sc1, sc2] at cs
          have htk := tot_bd HL.out k (okTo_mono HO.out hk)
          have hT := Lib.hid (show tot L (k + 1) = tot L k + wk (ls L k) (lq L k) 16 from rfl)
          clear hexC2 hszC2 hcf sc1 sc2 hsw
          go_wp2_with (first
            | ((with_reducible refine at_load 45 ?_); refine wpList_load_part rfl 45 _ rfl (g) (off + (n - 1 - k) * 26) rfl _ (C) _ _ 26 (hgC2) Try.underlying45 rfl (by kernel_rfl) (by have := HS2.out; omega) (L (n - 1 - k)) (HE2.out) ?_) | ((with_reducible refine at_slice1 42 ?_); refine wpList_slice_leg rfl _ rfl (L (n - 1 - k)) rfl hlegm.size ?_) | ((with_reducible refine at_append 42 ?_); refine wpList_append_one rfl _ _ rfl w0.heap.size vb k _ rfl (hob.alloc _) wr.heap.size (L (n - 1 - k)) hlegm rfl (heap_alloc_new _ _) (by omega) (by simp; omega) ?_; intro v3 w3 ho3 hg3 hw3))
          have hb3 : Below w0.heap.size w0 w3 := (below_then hb (below_new _ _)).grown hg3 (by simp; omega) (fun j hj => (hob.lt j hj).1)
          have hof3 := ((hof.below (below_new wr (.cells (L (n - 1 - k)) 45))).grown (c := cf) hg3 (fun g' h1 h2 => hap g' h2 h1))
          have hap3 : Off v3 (.slice (some ⟨gf, 0, none⟩) n cf) := hap.next2 (fun g' h => by
            simp only [Value.ownBlock] at h; injection h with h; subst h
            have := (Array.getElem?_eq_some_iff.1 hgf).1
            simp; omega) hw3
          clear hg3 hw3 hob hof hap hgf hgC2 hbf HE2 HS2
          obtain ⟨g2, off2, D, t2, fr2, hpp, hgD, hszD, hexD⟩ := (HA.out.kept hb3) k hlt
          cases hpp
          obtain ⟨gf2, cur2, hpp, hbf2, hgf2, hszf2, hcf2⟩ := hof3.at hlt
          cases hpp
          have aq' : D[off + k * 26 + 25]? = some (.int .i64 (lq L k)) := by rw [at_ext hexD hszD (by omega)]; exact hleg.q.i64.1
          have hlsk : D.extract (off + k * 26 + 6) (off + k * 26 + 6 + 16) = ls L k := by
            unfold ls
            rw [← hexD]
            rw [Array.extract_extract]
            congr 1; omega
          have hcf22 := hcf2 22 (by omega)
          have hmx : mix L k k = L k := by simp [mix]
          rw [hmx, hleg.c22] at hcf22
          have HLS := Lib.hid hlsk
          have HSD := Lib.hid hszD
          clear hexD hszD hlsk hcf2 hmx
          generalize lq L k = q at *
          generalize hww : wk (ls L k) q 16 = ww at *
          clear hww
          refine wp_region_below (by kernel_rfl) (by kernel_rfl) ?_
          repeat (first | ((with_reducible apply q_skip); (case hw => rfl); (try simp only [Act.put, List.setIfInBounds_toArray, List.set_cons_zero, List.set_cons_succ])) | ((with_reducible refine at_qload 23 ?_); refine q_load_fr (by rfl) 23 _ rfl (g) (off + k * 26 + 6) rfl _ (D) _ _ 16 (hgD) Try.underlying23 rfl (by kernel_rfl) (by have := HSD.out; omega) (ls L k) (HLS.out) ?_; try simp only [Act.put, List.setIfInBounds_toArray, List.set_cons_zero, List.set_cons_succ]) | ((with_reducible refine at_qcall 14 ?_); refine q_call_below _ 14 _ (by rfl) (cs) (fun wq hbq => by go_simp) ?_; try simp only [Act.put, List.setIfInBounds_toArray, List.set_cons_zero, List.set_cons_succ]) | ((with_reducible apply q_val); (case hw => rfl); (case hv => intro wq hbq; have hcq := cellF (Ytodbbcagpfjieaa.kept hbq hgD); go_simp; try rfl); (try simp only [Act.put, List.setIfInBounds_toArray, List.set_cons_zero, List.set_cons_succ])))
          refine q_nil ?_
          intro w4 hb4
          have hgf4 := Ytodbbcagpfjieaa.kept hb4 hgf2
          obtain ⟨cF, fF, _⟩ := cells_of hgf4
          go_wp2_with fail
          go_roundg (n - (k + 1))
          case measure => omega
          case rel =>
            have hb5 := below_then hb3 hb4
            exact ⟨k + 1, v3, by omega, rfl, by go_num, by rw [hT.out], rfl, (row_below ho3 hb4).kept (set_grown _ _ _ _) hap3.symm.row,
              ((hof3.below hb4).set (mix_leg HL.out k) hlt (by omega) rfl).congr (fun i hi => mix_next L k i), hap3,
              hb5.grown (set_grown _ _ _ _) hb5.size (fun j hj => by injection hj with hj; subst hj; exact hbf2)⟩
        · obtain rfl : k = n := by omega
          obtain ⟨ab, cb, rfl, hlb⟩ := own_legs (fun i => HL.out _) hob
          have hlf : Legs wr af k (fre L) := hof.legs.congr (fun i hi => by simp [mix, hi])
          have hfl := fre_leg HL.out
          obtain ⟨m1, m1'⟩ := mE_of (by omega) (ok_rv HO.out) (once_rv HN.out)
          obtain ⟨m2, m2'⟩ := mE_of (by omega) (ok_fre HL.out HO.out) (once_fre HN.out)
          rw [show sumTo (rv L k) k 9 = sumTo L k 9 from sumTo_congr (fun r => by rw [st_rv]) 9] at m1'
          rw [HFT.out.1] at m2'
          rw [HSM.out] at m1'
          have q1 := margin_any (H := Unit) (rv L k) ab k cb wr (fun i => HL.out _) hlb (by omega)
          have q2 := fun w2 hb2 => margin_any (H := Unit) (fre L) af k cf w2 hfl (hlf.kept hb2) (by omega)
          rw [m1, m1'] at q1
          rw [m2, m2'] at q2
          have HOB := Lib.hid hob
          clear hob hof hap hlb hlf hfl m1 m1' m2 m2'
          generalize htt : tot L k = tt at *
          clear htt
          go_wp2_with fail
          refine q1.mono ?_
          clear q1
          rintro e1 w3 ⟨rfl, hb3⟩
          go_wp2_with fail
          refine (q2 w3 hb3).mono ?_
          clear q2
          rintro e2 w4 ⟨rfl, hb4⟩
          have hb5 := below_then hb (below_then hb3 hb4)
          have hs5 := hb5.size
          have hbx := Ytodbbcagpfjieaa.kept hb5 hbox
          have hob5 := row_below HOB.out (below_then hb3 hb4)
          have hA25 := HSP.out.size
          have hlg0 := leg0_leg HSP.out
          have HBX := Lib.hid (show A.extract 0 25 = A from extract_all hA25)
          go_wp2_with (first
            | ((with_reducible refine at_load 25 ?_); refine wpList_load_part rfl 25 _ rfl (W.heap.size) 0 rfl _ (A) _ _ 25 (hbx) Try.underlying25 rfl (by kernel_rfl) (by omega) (A) (HBX.out) ?_) | ((with_reducible refine at_build 45 ?_); refine wpList_build_leg rfl _ rfl A rfl hA25 ?_) | ((with_reducible refine at_slice1 42 ?_); refine wpList_slice_leg rfl _ rfl (leg0 A) rfl hlg0.size ?_) | ((with_reducible refine at_append 42 ?_); refine wpList_append_one rfl _ _ rfl w0.heap.size (.slice ab k cb) k _ rfl (hob5.alloc _) w4.heap.size (leg0 A) hlg0 rfl (heap_alloc_new _ _) (by omega) (by simp; omega) ?_; intro v6 w6 ho6 hg6 hw6))
          obtain ⟨a6, c6, rfl, hl6⟩ := own_legs (L := snoc (rv L k) k (leg0 A)) (n := k + 1) (snoc_leg (fun i => HL.out _) hlg0) (by rw [flat_snoc]; exact ho6)
          have hb6 : Below w0.heap.size w0 w6 := (below_then hb5 (below_new _ _)).grown hg6 (by simp; omega) (fun j hj => (hob5.lt j hj).1)
          have q3 := margin_any (H := Unit) (snoc (rv L k) k (leg0 A)) a6 (k + 1) c6 w6 (snoc_leg (fun i => HL.out _) hlg0) hl6 (by omega)
          have hzz : mE (snoc (rv L k) k (leg0 A)) (k + 1) = 0 → mN (snoc (rv L k) k (leg0 A)) (k + 1) = sm := fun h => by
            rw [(mE_ok h).2.2.2, sum_more (leg0_q HSP.out), show sumTo (rv L k) k 9 = sumTo L k 9 from sumTo_congr (fun r => by rw [st_rv]) 9, HSM.out]
          have HZZ := Lib.hid hzz
          clear hzz ho6 hg6 hw6 hl6 hob5
          generalize mN (snoc (rv L k) k (leg0 A)) (k + 1) = z at *
          generalize mE (snoc (rv L k) k (leg0 A)) (k + 1) = h at *
          by_cases hh : h = 0
          · obtain rfl := HZZ.out hh
            subst hh
            refine q3.mono ?_
            clear q3
            rintro e3 w7 ⟨rfl, hb7⟩
            go_wp2_with (first | (go_at_call 16; (with_reducible refine (known10 _).mono ?_); rintro e w8 ⟨rfl, hb8⟩))
            go_ret
            exact ⟨rfl, below_then hb0 (below_then (below_then hb6 hb7) hb8)⟩
          · have hh' : (h == 0) = false := by simpa using hh
            refine q3.mono ?_
            clear q3
            rintro e3 w7 ⟨rfl, hb7⟩
            go_wp2_with (first | (go_at_call 16; (with_reducible refine (known10 _).mono ?_); rintro e w8 ⟨rfl, hb8⟩))
            go_ret
            exact ⟨rfl, below_then hb0 (below_then (below_then hb6 hb7) hb8)⟩
  · have hmn := mN_not he
    rw [hmn] at cm
    have he' : (mE L n == 0) = false := by simpa using he
    generalize mE L n = e at *
    clear hmn hL hA hz hsp
    go_enter Try.func8, Try.ntmps8
    go_wp2_with fail
    refine (cm _ (below_new _ _)).mono ?_
    rintro e1 w1 ⟨rfl, hb1⟩
    go_wp2_with (first | (go_at_call 16; (with_reducible refine (known10 _).mono ?_); rintro e w5 ⟨rfl, hb5⟩))
    go_ret
    exact ⟨rfl, below_then (below_then (below_new _ _) hb1) hb5⟩
end Go.Proofs.Ytodbbcagpfjieaa
