/- SealedFair, walked, where the auction sells: it returns true. Condition: the numbers fit their kinds. -/
import Derived.Test.YtoglcgijgckdaaaFair8c
namespace Go.Proofs.Ytoglcgijgckdaaa
set_option linter.unusedVariables false
set_option linter.unusedSimpArgs false
open Go.RowKit
set_option maxRecDepth 100000 in
set_option maxHeartbeats 8000000 in
theorem fair8_t (Q : Int) (ad : Option Addr) (n cap : Nat) (L : Nat → Array Value) (w : World) (hQ : F64 Q) (hL : ∀ i, IsOrd (L i)) (hR : RowsC w 5 ad n L) (hz : ad = none → n = 0 ∧ cap = 0) :
    Calls Try.prog 4 #[.bool true, .int .i64 Q, .slice ad n cap] w fun e w' => e = .returned (.bool true) ∧ Below w.heap.size w w' := by
  have cc := clear_any true Q ad n cap L w hQ hL hR hz
  have HR := Lib.hid hR
  have HL := Lib.hid hL
  clear hR hL hz hQ
  go_enter Try.func4, Try.ntmps4
  go_wp2_with (go_at_call 8; refine stop_at ?_)
  refine ⟨?_⟩
  refine cc.mono ?_
  rintro e w1 ⟨⟨h0, rfl⟩ | ⟨hE, d, fv, hp, hs, rfl, ho⟩, hb1⟩
  · generalize clE true Q L n = c at *
    have h0b : (c == 0) = false := beq_eq_false_iff_ne.2 h0
    have h0c : (c != 0) = true := by simpa using h0
    go_wp2_with ((go_at_call 7; (with_reducible refine (known08 _).mono ?_); rintro e w9 ⟨rfl, hb9⟩))
    go_ret
    exact ⟨rfl, below_then hb1 hb9⟩
  obtain ⟨hn50, q1, q2, _⟩ := clE_ok_inv hE
  have hn50i : ¬ (50 : Int) < n := by omega
  obtain ⟨t, hA⟩ := auc_of hE hp hs
  have HA := Lib.hid hA
  obtain ⟨fa, fc, rfl, hF, _⟩ := own_rows (c := 3) (fun i => fill_size _ _ _ i) ho
  have HF := Lib.hid (rowsC_of_T hF)
  have hm : nf Q (vS L d) n ≤ n := nf_le n
  clear cc hp hs ho hF hA hE
  go_wp2_with (first | ((with_reducible refine at_alloc 34 ?_); refine wpList_alloc_named rfl 34 rfl (z50) (by kernel_rfl) ?_))
  have hGot0 : Got w1 (w1.alloc (Obj.cells z50 34)) w1.heap.size 0 (gotA Q L d t) 0 := by
    refine ⟨⟨z50, heap_alloc_new _ _, by decide, fun j hj => ?_⟩, below_new _ _⟩
    rw [if_neg (by omega)]
    have : z50[j]? = some (.int .i64 0) := by unfold z50; rw [Array.getElem?_replicate, if_pos hj]
    rw [this]; split <;> rfl
  have HG0 := Lib.hid hGot0
  have HB1 := Lib.hid hb1
  clear hGot0 hb1
  obtain ⟨m, hme⟩ : ∃ m, m = nf Q (vS L d) n := ⟨_, rfl⟩
  have HM := Lib.hid hme
  rw [← hme] at HF hm
  rw [← hme]
  have hm50 : (m : Int) ≤ 50 := by omega
  obtain ⟨pr, hpr⟩ : ∃ pr, pr = prc L d m := ⟨_, rfl⟩
  have HPR := Lib.hid hpr
  rw [← hpr]
  clear hme hpr
  go_loopg [10, 11, 49] n (fun gh va vs vi wr => ∃ i : Nat, i ≤ n ∧ gh = n - i ∧ vi = .int .i64 i ∧ va = .int .i64 (sg (fun j => N (L j) 4) i) ∧ vs = .int .i64 (sg (gotA Q L d t) i) ∧ Got w1 wr w1.heap.size i (gotA Q L d t) 0)
  case atStart => exact ⟨0, by omega, by omega, rfl, rfl, rfl, HG0.out⟩
  case round =>
    clear HG0
    obtain ⟨i, hi, rfl, rfl, rfl, rfl, hg⟩ := hrel
    have HG := Lib.hid hg
    clear hg
    by_cases hlt : i < n
    · have hlti : (i : Int) < (n : Int) := by omega
      obtain ⟨bd3, bd4⟩ := HA.out.bd hlt
      obtain ⟨gb0, gb1⟩ := HA.out.got_bd hlt
      have hs1 : 0 ≤ sg (fun j => N (L j) 4) i ∧ sg (fun j => N (L j) 4) i ≤ 1000000 * (i : Int) := sg_bd i (fun j hj => by have := (HA.out.bd (i := j) (by omega)).2; omega)
      have hs2 : 0 ≤ sg (gotA Q L d t) i ∧ sg (gotA Q L d t) i ≤ 1000000 * (i : Int) := sg_bd i (fun j hj => by have := HA.out.got_bd (i := j) (by omega); have := (HA.out.bd (i := j) (by omega)).2; omega)
      obtain ⟨gL, oL, BL, tL, fL, rfl, hgL, hcL⟩ := rowsC_one (HR.out.kept HB1.out) (by omega) (fun i => (HL.out i).size)
      have e0 := hcL i hlt 0 (by omega)
      have e3 := hcL i hlt 3 (by omega)
      have e4 := hcL i hlt 4 (by omega)
      rw [(HL.out i).n.1, Nat.add_zero] at e0
      rw [(HL.out i).p.1] at e3
      rw [(HL.out i).l.1] at e4
      have hgLr := kept HG.out.be hgL
      have hcg := cellF hgLr
      have HGL := Lib.hid hgL
      have HS1 := Lib.hid (show sg (fun j => N (L j) 4) (i + 1) = sg (fun j => N (L j) 4) i + N (L i) 4 from rfl)
      have HS2 := Lib.hid (show sg (gotA Q L d t) (i + 1) = sg (gotA Q L d t) i + gotA Q L d t i from rfl)
      have HU := Lib.hid (fun k (hk : k ≤ m) => HA.out.gotU_bd hlt (k := k) (by rw [← HM.out]; exact hk))
      have HU1 := Lib.hid (show gotU Q L d i m = gotA Q L d t i from by rw [HM.out]; exact HA.out.got_all hlt)
      have HF1 := Lib.hid (fun h => HA.out.fair1 (i := i) hlt h)
      rw [← HM.out, ← HPR.out] at HF1
      have HGV := Lib.hid (fun k (hk : k < m) => show (0 ≤ gv Q (vS L d) k ∧ gv Q (vS L d) k ≤ 1000000) ∧ gotU Q L d i (k + 1) = gotU Q L d i k + (if N (L (d k)) 0 = N (L i) 0 then gv Q (vS L d) k else 0) from by
        have h1 := gv_bd (Q := Q) (v := vS L d) (by omega) HA.out.v0 (show k < n by omega)
        have h2 := (HA.out.bd (HA.out.dl k (by omega))).2.2
        have h3 : vS L d k = N (L (d k)) 4 := rfl
        exact ⟨by omega, rfl⟩)
      have hi50 : i < 50 := by omega
      have hi50i : (i : Int) < 50 := by omega
      clear hcL hgL hgLr
      generalize sg (fun j => N (L j) 4) i = s1 at *
      generalize sg (gotA Q L d t) i = s2 at *
      generalize N (L i) 4 = lf at *
      generalize N (L i) 3 = pi at *
      generalize N (L i) 0 = nu at *
      go_wp2
      clear hcg
      go_loopg [61] m (fun gh vk wr2 => ∃ k : Nat, k ≤ m ∧ gh = m - k ∧ vk = .int .i64 k ∧ Got w1 wr2 w1.heap.size i (gotA Q L d t) (gotU Q L d i k))
      case atStart => exact ⟨0, by omega, by omega, rfl, HG.out⟩
      case round =>
        clear HG
        obtain ⟨k, hk, rfl, rfl, hg⟩ := hrel
        have HG := Lib.hid hg
        clear hg
        obtain ⟨A, hgA, hAs, _, hAi⟩ := HG.out.cell
        have hAi := hAi hi50
        have HGA := Lib.hid hgA
        have HGL2 := Lib.hid (kept HG.out.be HGL.out)
        clear hgA
        by_cases hkl : k < m
        · have hkli : (k : Int) < (m : Int) := by omega
          obtain ⟨gF, oF, BF, tF, fF, rfl, hgF, hcF⟩ := rowsC_one (HF.out.kept HG.out.be) (by omega) (fun i => fill_size Q L d i)
          have f0 := hcF k hkl 0 (by omega)
          have f2 := hcF k hkl 2 (by omega)
          rw [show (fillA Q L d k)[0]? = some (.int .u64 (N (L (d k)) 0)) from rfl, Nat.add_zero] at f0
          rw [show (fillA Q L d k)[2]? = some (.int .i64 (gv Q (vS L d) k)) from rfl] at f2
          have HGF := Lib.hid hgF
          obtain ⟨⟨v0, v1⟩, hnx⟩ := HGV.out k hkl
          obtain ⟨u0, u1⟩ := HU.out k hk
          have HNX := Lib.hid hnx
          clear hcF hgF hnx
          generalize gv Q (vS L d) k = gg at *
          generalize gotU Q L d i k = uu at *
          generalize N (L (d k)) 0 = nf at *
          go_wp2
          by_cases hnn : nf = nu
          · subst hnn
            have hq : decide (nf = nf) = true := decide_eq_true rfl
            refine wp_region_below (by kernel_rfl) (by kernel_rfl) ?_
            repeat (first | ((with_reducible apply q_skip); (case hw => rfl); (try simp only [Act.put, List.setIfInBounds_toArray, List.set_cons_zero, List.set_cons_succ])) | ((with_reducible apply q_val); (case hw => rfl); (case hv => intro wq hbq; have hcL := cellF (kept hbq HGL2.out); have hcF := cellF (kept hbq HGF.out); go_simp; try rfl); (try simp only [Act.put, List.setIfInBounds_toArray, List.set_cons_zero, List.set_cons_succ])))
            refine q_nil ?_
            intro w4 hb4
            have HG4 := Lib.hid (HG.out.below hb4)
            have HGA4 := Lib.hid (kept hb4 HGA.out)
            have HGF4 := Lib.hid (kept hb4 HGF.out)
            clear HG hb4
            go_wp2
            have hAi2 : ∀ h : i < A.size, A[i]'h = .int .i64 uu := fun h => by have := hAi; rw [Array.getElem?_eq_getElem h] at this; exact Option.some.inj this
            have wsum : IntKind.i64.wrap (uu + gg) = uu + gg := by rw [IntKind.wrap_i64]; omega
            refine wp_region_tail 10 (by kernel_rfl) (by kernel_rfl) (by kernel_rfl) (by kernel_rfl) rfl rfl (by kernel_rfl) (by kernel_rfl) ?_
            simp only [List.take, List.getD, List.getElem?_cons_succ, List.getElem?_cons_zero, Option.getD]
            repeat (first | ((with_reducible apply q_skip); (case hw => rfl); (try simp only [Act.put, List.setIfInBounds_toArray, List.set_cons_zero, List.set_cons_succ])) | ((with_reducible apply q_val); (case hw => rfl); (case hv => intro wq hbq; have hcA := cellF (kept hbq HGA4.out); have hcF := cellF (kept hbq HGF4.out); go_simp; try rfl); (try simp only [Act.put, List.setIfInBounds_toArray, List.set_cons_zero, List.set_cons_succ])))
            refine q_nil ?_
            intro w5 hb5
            have HG5 := Lib.hid (HG4.out.below hb5)
            obtain ⟨c5, f5, l5⟩ := cells_of (kept hb5 HGA4.out)
            clear hb5
            go_wp2_with fail
            go_roundg (m - (k + 1))
            case measure => omega
            case rel => exact ⟨k + 1, by omega, rfl, by go_num, by rw [HNX.out]; simp only [if_true]; exact HG5.out.set⟩
          · have hnb : (nf == nu) = false := beq_eq_false_iff_ne.2 hnn
            have hq : decide (nf = nu) = false := decide_eq_false hnn
            have HNN := Lib.hid hnn
            clear hnn
            refine wp_region_below (by kernel_rfl) (by kernel_rfl) ?_
            repeat (first | ((with_reducible apply q_skip); (case hw => rfl); (try simp only [Act.put, List.setIfInBounds_toArray, List.set_cons_zero, List.set_cons_succ])) | ((with_reducible apply q_val); (case hw => rfl); (case hv => intro wq hbq; have hcL := cellF (kept hbq HGL2.out); have hcF := cellF (kept hbq HGF.out); go_simp; try rfl); (try simp only [Act.put, List.setIfInBounds_toArray, List.set_cons_zero, List.set_cons_succ])))
            refine q_nil ?_
            intro w4 hb4
            have HG4 := Lib.hid (HG.out.below hb4)
            go_wp2
            go_roundg (m - (k + 1))
            case measure => omega
            case rel => exact ⟨k + 1, by omega, rfl, by go_num, by rw [HNX.out, if_neg HNN.out, Int.add_zero]; exact HG4.out⟩
        · obtain rfl : k = m := by omega
          rw [HU1.out] at hAi HG
          have HNG := Lib.hid (HG.out.next rfl)
          have wsum : IntKind.i64.wrap (s2 + gotA Q L d t i) = s2 + gotA Q L d t i := by rw [IntKind.wrap_i64]; omega
          clear HGV HU HU1
          generalize gotA Q L d t i = ge at *
          have hAi2 : ∀ h : i < A.size, A[i]'h = .int .i64 ge := fun h => by have := hAi; rw [Array.getElem?_eq_getElem h] at this; exact Option.some.inj this
          have hcA0 := cellF HGA.out
          have hng : ¬ ge < 0 := by omega
          have hnl : ¬ lf < ge := by omega
          have hd1 := Lib.hid (decide_eq_false hng)
          have hd2 := Lib.hid (decide_eq_false hnl)
          go_upto_region 17 with fail
          clear hcA0
          go_cut [136] from 91 to 136 (fun v wx => v = .bool false ∧ Got w1 wx w1.heap.size (i + 1) (gotA Q L d t) 0)
          case first =>
            by_cases hgp : 0 < ge
            · have HFX := HF1.out hgp
              have hd3 := Lib.hid (decide_eq_true hgp)
              have hpp : ¬ pi < pr := by have : pr ≤ pi := HFX; omega
              have hd4 := Lib.hid (decide_eq_false hpp)
              clear HF1 HFX
              refine wp_region_below (by kernel_rfl) (by kernel_rfl) ?_
              repeat (first | ((with_reducible apply q_skip); (case hw => rfl); (try simp only [Act.put, List.setIfInBounds_toArray, List.set_cons_zero, List.set_cons_succ])) | ((with_reducible apply q_val); (case hw => rfl); (case hv => intro wq hbq; have hcL := cellF (kept hbq HGL2.out); have hcA := cellF (kept hbq HGA.out); go_simp; try rfl); (try simp only [Act.put, List.setIfInBounds_toArray, List.set_cons_zero, List.set_cons_succ, hd1.out, hd2.out, hd3.out, hd4.out])))
              refine q_nil ?_
              intro w4 hb4
              go_wp2
              go_meet
              exact ⟨rfl, HNG.out.below hb4⟩
            · have hd3 := Lib.hid (decide_eq_false hgp)
              have hd4 := hd3
              clear HF1
              refine wp_region_below (by kernel_rfl) (by kernel_rfl) ?_
              repeat (first | ((with_reducible apply q_skip); (case hw => rfl); (try simp only [Act.put, List.setIfInBounds_toArray, List.set_cons_zero, List.set_cons_succ])) | ((with_reducible apply q_val); (case hw => rfl); (case hv => intro wq hbq; have hcL := cellF (kept hbq HGL2.out); have hcA := cellF (kept hbq HGA.out); go_simp; try rfl); (try simp only [Act.put, List.setIfInBounds_toArray, List.set_cons_zero, List.set_cons_succ, hd1.out, hd2.out, hd3.out, hd4.out])))
              refine q_nil ?_
              intro w4 hb4
              go_wp2
              go_meet
              exact ⟨rfl, HNG.out.below hb4⟩
          case rest =>
            obtain ⟨rfl, hg⟩ := hcut
            have HG9 := Lib.hid hg
            clear hg
            go_wp2
            go_roundg (n - (i + 1))
            case measure => omega
            case rel => exact ⟨i + 1, by omega, rfl, by go_num, by rw [HS1.out], by rw [HS2.out], HG9.out⟩
    · obtain rfl : i = n := by omega
      have hsum := HA.out.sum
      have hs1 : 0 ≤ sg (fun j => N (L j) 4) i ∧ sg (fun j => N (L j) 4) i ≤ 1000000 * (i : Int) := sg_bd i (fun j hj => by have := (HA.out.bd (i := j) (by omega)).2; omega)
      have HF2 := Lib.hid (fun (a b : Nat) (ha : a < i) (hb : b < i) hw hg => HA.out.fair2 ha hb hw hg)
      have HGB := Lib.hid (fun (a : Nat) (ha : a < i) => HA.out.got_bd ha)
      have HBD := Lib.hid (fun (a : Nat) (ha : a < i) => HA.out.bd ha)
      clear HA HM HPR
      generalize sg (fun j => N (L j) 4) i = s1 at *
      generalize sg (gotA Q L d t) i = s2 at *
      generalize gotA Q L d t = G at *
      have hcase : (s1 < Q ∧ s2 = s1) ∨ (s1 = Q ∧ s2 = Q) ∨ (Q < s1 ∧ s2 = Q) := by omega
      clear hsum
      go_upto_region 20 with fail
      go_cut [142] from 138 to 142 (fun v wx => v = .bool false ∧ wx = wr)
      case first =>
        rcases hcase with ⟨hc, rfl⟩ | ⟨rfl, rfl⟩ | ⟨hc, rfl⟩
        · go_wp2
          go_meet
          exact ⟨rfl, rfl⟩
        · go_wp2
          go_meet
          exact ⟨rfl, rfl⟩
        · go_wp2
          go_meet
          exact ⟨rfl, rfl⟩
      case rest =>
        obtain ⟨rfl, rfl⟩ := hcut
        clear hcase
        go_wp2
        go_loopg [145] i (fun gh vi wx => ∃ j : Nat, j ≤ i ∧ gh = i - j ∧ vi = .int .i64 j ∧ Got w1 wx w1.heap.size i G 0)
        case atStart => exact ⟨0, by omega, by omega, rfl, HG.out⟩
        case round =>
          clear HG
          obtain ⟨j, hj, rfl, rfl, hg⟩ := hrel
          have HG := Lib.hid hg
          clear hg
          by_cases hj : j < i
          · have hji : (j : Int) < (i : Int) := by omega
            go_wp2
            go_loopg [150] i (fun gh vk wx => ∃ k : Nat, k ≤ i ∧ gh = i - k ∧ vk = .int .i64 k ∧ Got w1 wx w1.heap.size i G 0)
            case atStart => exact ⟨0, by omega, by omega, rfl, HG.out⟩
            case round =>
              clear HG
              obtain ⟨k, hkn, rfl, rfl, hg⟩ := hrel
              have HG := Lib.hid hg
              clear hg
              by_cases hk : k < i
              · have hki : (k : Int) < (i : Int) := by omega
                obtain ⟨gL, oL, BL, tL, fL, rfl, hgL, hcL⟩ := rowsC_one (HR.out.kept HB1.out) (by omega) (fun i => (HL.out i).size)
                have e3 := hcL j hj 3 (by omega)
                have e4 := hcL j hj 4 (by omega)
                have f3 := hcL k hk 3 (by omega)
                rw [(HL.out j).p.1] at e3
                rw [(HL.out j).l.1] at e4
                rw [(HL.out k).p.1] at f3
                have HGL := Lib.hid hgL
                have hj50 : (j : Int) < 50 := by omega
                have hk50 : (k : Int) < 50 := by omega
                have KEY := Lib.hid (show ltK (keyS true L) j k ↔ (if true then N (L k) 3 < N (L j) 3 else N (L j) 3 < N (L k) 3) ∨ (N (L k) 3 = N (L j) 3 ∧ j < k) from by unfold ltK keyS; simp <;> omega)
                obtain ⟨W, hWE⟩ : ∃ W, W = ltb (keyS true L) j k := ⟨_, rfl⟩
                have HWE := Lib.hid hWE
                have HEND := Lib.hid (show W = true → G j < N (L j) 4 → ¬ 0 < G k from fun h1 h2 h3 => by have h4 := HF2.out j k hj hk (ltb_iff.1 (hWE.symm.trans h1)) h2; omega)
                clear hcL hgL hWE
                generalize hpj : N (L j) 3 = pj at *
                generalize hpk : N (L k) 3 = pk at *
                generalize N (L j) 4 = lj at *
                clear hpj hpk
                go_upto_region 28 with fail
                go_cut [17] from 153 to 201 (fun v wx => v = .bool W ∧ Got w1 wx w1.heap.size i G 0)
                case first =>
                  have HGL2 := Lib.hid (kept HG.out.be HGL.out)
                  rcases Int.lt_trichotomy pk pj with hc | hc | hc
                  · have hd1 := Lib.hid (decide_eq_true hc)
                    have hd2 := Lib.hid (decide_eq_false (show ¬ pj < pk by omega))
                    have hd3 := Lib.hid (decide_eq_false (show ¬ pk = pj by omega))
                    have hd5 := Lib.hid (show (pk == pj) = false from beq_eq_false_iff_ne.2 (by omega))
                    have hd4 := hd3
                    have HW := Lib.hid (KEY.out.2 (.inl hc))
                    refine wp_region_below (by kernel_rfl) (by kernel_rfl) ?_
                    repeat (first | ((with_reducible apply q_skip); (case hw => rfl); (try simp only [Act.put, List.setIfInBounds_toArray, List.set_cons_zero, List.set_cons_succ])) | ((with_reducible apply q_val); (case hw => rfl); (case hv => intro wq hbq; have hcL := cellF (kept hbq HGL2.out); go_simp; try rfl); (try simp only [Act.put, List.setIfInBounds_toArray, List.set_cons_zero, List.set_cons_succ, hd1.out, hd2.out, hd3.out, hd4.out, hd5.out])))
                    refine q_nil ?_
                    intro w4 hb4
                    go_wp2
                    go_meet
                    exact ⟨by rw [HWE.out, ltb_iff.2 HW.out], HG.out.below hb4⟩
                  · subst hc
                    have hd1 := Lib.hid (decide_eq_false (show ¬ pk < pk by omega))
                    have hd2 := hd1
                    have hd3 := Lib.hid (show decide (pk = pk) = true from decide_eq_true rfl)
                    have hd5 := Lib.hid (show (pk == pk) = true from by simp)
                    by_cases hjk : j < k
                    · have hjki : (j : Int) < (k : Int) := by omega
                      have hd4 := Lib.hid (decide_eq_true hjki)
                      have HW := Lib.hid (KEY.out.2 (.inr ⟨rfl, hjk⟩))
                      refine wp_region_below (by kernel_rfl) (by kernel_rfl) ?_
                      repeat (first | ((with_reducible apply q_skip); (case hw => rfl); (try simp only [Act.put, List.setIfInBounds_toArray, List.set_cons_zero, List.set_cons_succ])) | ((with_reducible apply q_val); (case hw => rfl); (case hv => intro wq hbq; have hcL := cellF (kept hbq HGL2.out); go_simp; try rfl); (try simp only [Act.put, List.setIfInBounds_toArray, List.set_cons_zero, List.set_cons_succ, hd1.out, hd2.out, hd3.out, hd4.out, hd5.out])))
                      refine q_nil ?_
                      intro w4 hb4
                      go_wp2
                      go_meet
                      exact ⟨by rw [HWE.out, ltb_iff.2 HW.out], HG.out.below hb4⟩
                    · have hjki : ¬ (j : Int) < (k : Int) := by omega
                      have hd4 := Lib.hid (decide_eq_false hjki)
                      have HNW := Lib.hid (show ¬ ltK (keyS true L) j k from fun h => by have := KEY.out.1 h; simp at this <;> omega)
                      refine wp_region_below (by kernel_rfl) (by kernel_rfl) ?_
                      repeat (first | ((with_reducible apply q_skip); (case hw => rfl); (try simp only [Act.put, List.setIfInBounds_toArray, List.set_cons_zero, List.set_cons_succ])) | ((with_reducible apply q_val); (case hw => rfl); (case hv => intro wq hbq; have hcL := cellF (kept hbq HGL2.out); go_simp; try rfl); (try simp only [Act.put, List.setIfInBounds_toArray, List.set_cons_zero, List.set_cons_succ, hd1.out, hd2.out, hd3.out, hd4.out, hd5.out])))
                      refine q_nil ?_
                      intro w4 hb4
                      go_wp2
                      go_meet
                      exact ⟨by rw [HWE.out, ltb_no HNW.out], HG.out.below hb4⟩
                  · have hd1 := Lib.hid (decide_eq_false (show ¬ pk < pj by omega))
                    have hd2 := Lib.hid (decide_eq_true hc)
                    have hd3 := Lib.hid (decide_eq_false (show ¬ pk = pj by omega))
                    have hd5 := Lib.hid (show (pk == pj) = false from beq_eq_false_iff_ne.2 (by omega))
                    have hd4 := hd3
                    have HNW := Lib.hid (show ¬ ltK (keyS true L) j k from fun h => by have := KEY.out.1 h; simp at this; omega)
                    refine wp_region_below (by kernel_rfl) (by kernel_rfl) ?_
                    repeat (first | ((with_reducible apply q_skip); (case hw => rfl); (try simp only [Act.put, List.setIfInBounds_toArray, List.set_cons_zero, List.set_cons_succ])) | ((with_reducible apply q_val); (case hw => rfl); (case hv => intro wq hbq; have hcL := cellF (kept hbq HGL2.out); go_simp; try rfl); (try simp only [Act.put, List.setIfInBounds_toArray, List.set_cons_zero, List.set_cons_succ, hd1.out, hd2.out, hd3.out, hd4.out, hd5.out])))
                    refine q_nil ?_
                    intro w4 hb4
                    go_wp2
                    go_meet
                    exact ⟨by rw [HWE.out, ltb_no HNW.out], HG.out.below hb4⟩
                case rest =>
                  obtain ⟨rfl, hg⟩ := hcut
                  have HG4 := Lib.hid hg
                  clear hg HG KEY HWE
                  obtain ⟨A, hgA, hAs, hAi, _⟩ := HG4.out.cell
                  have a1 := hAi j hj (by omega)
                  have a2 := hAi k hk (by omega)
                  have a1' : ∀ h : j < A.size, A[j]'h = .int .i64 (G j) := fun h => by have := a1; rw [Array.getElem?_eq_getElem h] at this; exact Option.some.inj this
                  have a2' : ∀ h : k < A.size, A[k]'h = .int .i64 (G k) := fun h => by have := a2; rw [Array.getElem?_eq_getElem h] at this; exact Option.some.inj this
                  have HGA4 := Lib.hid hgA
                  have HGL4 := Lib.hid (kept HG4.out.be HGL.out)
                  clear hgA hAi
                  go_upto_region 29 with fail
                  go_cut [219] from 202 to 219 (fun v wx => v = .bool false ∧ Got w1 wx w1.heap.size i G 0)
                  case first =>
                    cases W
                    · have he1 := Lib.hid (show decide (1 = 2) = false from rfl)
                      have he2 := he1
                      refine wp_region_below (by kernel_rfl) (by kernel_rfl) ?_
                      repeat (first | ((with_reducible apply q_skip); (case hw => rfl); (try simp only [Act.put, List.setIfInBounds_toArray, List.set_cons_zero, List.set_cons_succ])) | ((with_reducible apply q_val); (case hw => rfl); (case hv => intro wq hbq; have hcL := cellF (kept hbq HGL4.out); have hcA := cellF (kept hbq HGA4.out); go_simp; try rfl); (try simp only [Act.put, List.setIfInBounds_toArray, List.set_cons_zero, List.set_cons_succ, he1.out, he2.out])))
                      refine q_nil ?_
                      intro w5 hb5
                      go_wp2
                      go_meet
                      exact ⟨rfl, HG4.out.below hb5⟩
                    · by_cases hgl : G j < lj
                      · have hgk := HEND.out rfl hgl
                        have he1 := Lib.hid (decide_eq_true hgl)
                        have he2 := Lib.hid (decide_eq_false hgk)
                        refine wp_region_below (by kernel_rfl) (by kernel_rfl) ?_
                        repeat (first | ((with_reducible apply q_skip); (case hw => rfl); (try simp only [Act.put, List.setIfInBounds_toArray, List.set_cons_zero, List.set_cons_succ])) | ((with_reducible apply q_val); (case hw => rfl); (case hv => intro wq hbq; have hcL := cellF (kept hbq HGL4.out); have hcA := cellF (kept hbq HGA4.out); go_simp; try rfl); (try simp only [Act.put, List.setIfInBounds_toArray, List.set_cons_zero, List.set_cons_succ, he1.out, he2.out])))
                        refine q_nil ?_
                        intro w5 hb5
                        go_wp2
                        go_meet
                        exact ⟨rfl, HG4.out.below hb5⟩
                      · have he1 := Lib.hid (decide_eq_false hgl)
                        have he2 := he1
                        refine wp_region_below (by kernel_rfl) (by kernel_rfl) ?_
                        repeat (first | ((with_reducible apply q_skip); (case hw => rfl); (try simp only [Act.put, List.setIfInBounds_toArray, List.set_cons_zero, List.set_cons_succ])) | ((with_reducible apply q_val); (case hw => rfl); (case hv => intro wq hbq; have hcL := cellF (kept hbq HGL4.out); have hcA := cellF (kept hbq HGA4.out); go_simp; try rfl); (try simp only [Act.put, List.setIfInBounds_toArray, List.set_cons_zero, List.set_cons_succ, he1.out, he2.out])))
                        refine q_nil ?_
                        intro w5 hb5
                        go_wp2
                        go_meet
                        exact ⟨rfl, HG4.out.below hb5⟩
                  case rest =>
                    obtain ⟨rfl, hg⟩ := hcut
                    have HG5 := Lib.hid hg
                    clear hg
                    go_wp2
                    go_roundg (i - (k + 1))
                    case measure => omega
                    case rel => exact ⟨k + 1, by omega, rfl, by go_num, HG5.out⟩
              · obtain rfl : k = i := by omega
                go_wp2
                go_roundg (k - (j + 1))
                case measure => omega
                case rel => exact ⟨j + 1, by omega, rfl, by go_num, HG.out⟩
          · obtain rfl : j = i := by omega
            go_wp2_with ((go_at_call 7; (with_reducible refine (known08 _).mono ?_); rintro e w9 ⟨rfl, hb9⟩))
            go_ret
            exact ⟨rfl, (HB1.out.trans (HG.out.be.mono HB1.out.size)).trans (hb9.mono (by have := HG.out.be.size; have := HB1.out.size; omega))⟩
end Go.Proofs.Ytoglcgijgckdaaa
