/- What stakes need, as the document says. Condition: the numbers fit their kinds. -/
import Derived.Test.YtnpjclodcgejgaaApart
import Derived.Test.YtnpjclodcgejgaaWorstR
import Derived.Test.YtnpjclodcgejgaaMayR
namespace Go.Proofs.Ytnpjclodcgejgaa
set_option linter.unusedVariables false
set_option linter.unusedSimpArgs false
open Go.RowKit

theorem ext26 {A B : Array Value} {i : Nat} (h : A.extract i (i + 29) = B) (hs : i + 29 ≤ A.size) : A.extract i (i + 26) = B.extract 0 26 := by
  subst h
  rw [Array.extract_extract]
  congr 1
  omega

set_option maxRecDepth 100000 in
set_option maxHeartbeats 4000000 in
theorem rneed_any (S : Nat → Array Value) (O : Nat → Nat → Array Value) (m : Nat → Nat) (a : Option Addr) (n cap : Nat) (w : World) (hS : ∀ i, IsStk (S i)) (hO : ∀ i k, IsOrd (O i k)) (hA : Stks w a n S O m) (hn : n ≤ 9223372036854775807) :
    Calls Try.prog 15 #[.slice a n cap] w fun e w' => e = .returned (.tuple #[.agg (need S O m n), .int .i64 (nE S O m n)]) ∧ Below w.heap.size w w' := by
  have H3 := Lib.hid (show (r3 0 0 0).size = 3 from rfl)
  by_cases hlong : 16 < n
  · have he : nE S O m n = 3 := by simp [nE, hlong]
    have HF := Lib.hid (And.intro (need_not (S := S) (O := O) (m := m) (n := n) (by rw [he]; decide)) he)
    clear he hA
    go_enter Try.func15, Try.ntmps15
    go_wp2_with (first | ((with_reducible refine at_alloc 35 ?_); refine wpList_alloc_named rfl 35 rfl (r3 0 0 0) (by kernel_rfl) ?_) | ((with_reducible refine at_build 35 ?_); refine wpList_build_named rfl 35 _ rfl (r3 0 0 0) (by kernel_rfl) ?_) | ((with_reducible refine at_store 35 ?_); refine wpList_store_over rfl 35 _ _ rfl (w.heap.size) (r3 0 0 0) rfl rfl _ _ (heap_alloc_new _ _) (by rw [H3.out]; kernel_rfl) (rfl) (r3_all 0 0 0) ?_; intro w2 hg2 hs2 ho2 hb2))
    have HG := hg2
    have HB := (below_new w (Obj.cells (r3 0 0 0) 35)).trans (hb2 _ (Nat.le_refl _))
    exact post_cell_tmp (g := w.heap.size) (t := 35) rfl rfl rfl rfl (HG) Try.underlying35 rfl (by kernel_rfl) ⟨by rw [HF.out.1, HF.out.2]; rfl, HB⟩
  · have HE := Lib.hid (show nE S O m n = if okKs S O m n then (if onceTo (lg S) n then 0 else 8) else 2 by simp [nE, hlong])
    have HS := Lib.hid hS
    have HO := Lib.hid hO
    have HA := Lib.hid hA
    clear hS hO hA
    go_enter Try.func15, Try.ntmps15
    go_wp2_with (first | ((with_reducible refine at_alloc 35 ?_); refine wpList_alloc_named rfl 35 rfl (r3 0 0 0) (by kernel_rfl) ?_))
    go_loopg [4, 6] n (fun gh x i wr => ∃ (k : Nat) (v : Value), k ≤ n ∧ gh = n - k ∧ i = .int .i64 k ∧ v = x ∧ okKs S O m k = true ∧ wr.ownsRow (w.heap.size + 2) 30 26 v k (flat (lg S) k) ∧ wr.heap[w.heap.size]? = some (.cells (r3 0 0 0) 35 (0, 0)) ∧
      wr.heap[w.heap.size + 1]? = some (.cells (r3 0 (sW S O m k) (sU S k)) 35 (0, 0)) ∧ Below w.heap.size w wr)
    case atStart => exact ⟨0, _, by omega, by omega, rfl, rfl, rfl, World.ownsRow_nil _ _ _ _, heap_up (heap_alloc_new _ _), heap_alloc2_new _ _ _, below_alloc (below_new _ _) _⟩
    case round =>
      obtain ⟨k, v, hk, rfl, rfl, rfl, hok, hoa, hg, hgN, hb⟩ := hrel
      have hbs := hb.size
      have hbs2 : w.heap.size + 1 < wr.heap.size := (Array.getElem?_eq_some_iff.1 hgN).1
      by_cases hlt : k < n
      · obtain ⟨g, off, A, t, fr, rfl, hgW, hszA, hexA⟩ := HA.out.at_ k hlt
        obtain ⟨ad, c, h28, hord, hmc, hc, _⟩ := HA.out.or k hlt
        have hgA := kept hb hgW
        have hst := HS.out k
        have HEX := Lib.hid hexA
        have HZ := Lib.hid hszA
        have HX26 := Lib.hid (ext26 hexA hszA)
        have HOK := Lib.hid hok
        clear hok
        have cm := rmay_k (S k) (O k) ad (m k) c wr hst (HO.out k) (hord.kept hb) h28 (by omega)
        have hok1 : okKs S O m (k + 1) = (okKs S O m k && okK (S k) (O k) (m k)) := rfl
        have HK1 := Lib.hid hok1
        clear hok1
        cases hoo : okK (S k) (O k) (m k)
        · rw [hoo] at cm
          have he : nE S O m n = 2 := by
            have : okKs S O m n = false := by
              rw [Bool.eq_false_iff]
              intro h'
              have := okKs_mono h' (show k + 1 ≤ n by omega)
              rw [HK1.out, hoo] at this
              simp at this
            rw [HE.out, this]
            rfl
          have HF := Lib.hid (And.intro (need_not (S := S) (O := O) (m := m) (n := n) (by rw [he]; decide)) he)
          clear he hoo hexA hszA
          go_wp2_with (first | ((with_reducible refine at_load 33 ?_); refine wpList_load_part rfl 33 _ rfl (g) ((off + k * 29)) rfl _ (A) _ _ 29 (hgA) Try.underlying33 rfl (by kernel_rfl) (by have := HZ.out; omega) (S k) (HEX.out) ?_) | (go_at_call 27; (with_reducible refine (cm).mono ?_); rintro e w1 ⟨rfl, hb1⟩; have hg1 := kept hb1 hg) | ((with_reducible refine at_build 35 ?_); refine wpList_build_named rfl 35 _ rfl (r3 0 0 0) (by kernel_rfl) ?_) | ((with_reducible refine at_store 35 ?_); refine wpList_store_over rfl 35 _ _ rfl (w.heap.size) (r3 0 0 0) rfl rfl _ _ (hg1) (by rw [H3.out]; kernel_rfl) (rfl) (r3_all 0 0 0) ?_; intro w2 hg2 hs2 ho2 hb2))
          have HG := hg2
          have HB := (below_then hb hb1).trans (hb2 _ (Nat.le_refl _))
          exact post_cell_tmp (g := w.heap.size) (t := 35) rfl rfl rfl rfl (HG) Try.underlying35 rfl (by kernel_rfl) ⟨by rw [HF.out.1, HF.out.2]; rfl, HB⟩
        · rw [hoo] at cm
          have HN := Lib.hid (show okKs S O m (k + 1) = true by rw [HK1.out, HOK.out, hoo]; rfl)
          have F := okK_facts hst hoo
          have cw := fun w' hb' => rworst_k (S k) (O k) ad (m k) c w' hst (HO.out k) (hord.kept hb') h28 hoo
          have CW := Lib.hid cw
          obtain ⟨hw0, hw1⟩ := F.w
          obtain ⟨hu0, hu1⟩ := F.u
          have hle := F.le
          obtain ⟨⟨s0, s1⟩, s2, s3⟩ := s_bd HS.out k (okKs_mono HN.out (by omega))
          have hpm := prod_bd7 F.q (s := N (S k) 27) (by have := F.p; omega)
          have hb0 := F.b
          have aq : A[off + k * 29 + 25]? = some (.int .i64 (N (S k) 25)) := by rw [at_ext29 hexA hszA (by omega)]; exact hst.q.1
          have ab : A[off + k * 29 + 26]? = some (.int .i64 (N (S k) 26)) := by rw [at_ext29 hexA hszA (by omega)]; exact hst.b.1
          have ap : A[off + k * 29 + 27]? = some (.int .i64 (N (S k) 27)) := by rw [at_ext29 hexA hszA (by omega)]; exact hst.p.1
          have HWn := Lib.hid (show sW S O m (k + 1) = sW S O m k + kw (S k) (O k) (m k) from rfl)
          have HUn := Lib.hid (show sU S (k + 1) = sU S k + ku (S k) from rfl)
          have hku : ku (S k) = N (S k) 26 - N (S k) 25 * N (S k) 27 := rfl
          have HL26 := Lib.hid (show (lg S k).size = 26 from hst.leg.size)
          have hk16 : k ≤ 15 := by omega
          clear cw hexA hszA hoo F h28 hord hmc hc
          generalize sW S O m k = sw at *
          generalize sU S k = su at *
          generalize kw (S k) (O k) (m k) = kwj at *
          generalize ku (S k) = kuj at *
          generalize N (S k) 25 = q at *
          generalize N (S k) 26 = b at *
          generalize N (S k) 27 = p at *
          have hwA : wrap64 (sw + kwj) = sw + kwj := by unfold wrap64; omega
          have hwM : wrap64 (q * p) = q * p := by unfold wrap64; omega
          have hwS : wrap64 (su + b) = su + b := by unfold wrap64; omega
          have hwU : wrap64 (su + b - q * p) = su + kuj := by unfold wrap64; omega
          have HV := Lib.hid (show su + b - q * p = su + kuj by omega)
          clear hku
          go_wp2_with (first | ((with_reducible refine at_load 33 ?_); refine wpList_load_part rfl 33 _ rfl (g) ((off + k * 29)) rfl _ (A) _ _ 29 (hgA) Try.underlying33 rfl (by kernel_rfl) (by have := HZ.out; omega) (S k) (HEX.out) ?_) | (go_at_call 27; (with_reducible refine (cm).mono ?_); rintro e w1 ⟨rfl, hb1⟩; have hg1 := kept hb1 hg; have hgN1 := kept hb1 hgN; have hgA1 := kept hb1 hgA; have hoa1 := own_below hb1 hoa; have hbs1 := hb1.size) | ((with_reducible refine at_load 30 ?_); refine wpList_load_part rfl 30 _ rfl (g) ((off + k * 29)) rfl _ (A) _ _ 26 (hgA1) Try.underlying30 rfl (by kernel_rfl) (by have := HZ.out; omega) (lg S k) (HX26.out) ?_) | ((with_reducible refine at_slice1 60 ?_); refine wpList_slice_leg rfl _ rfl (lg S k) rfl HL26.out ?_) | ((with_reducible refine at_append 60 ?_); refine wpList_append_one rfl _ _ rfl (w.heap.size + 2) v k _ rfl (hoa1.alloc _) w1.heap.size (lg S k) (lgs HS.out k) rfl (heap_alloc_new _ _) (by omega) (by simp; omega) ?_; intro v1 w2 ho2 hg2 hw2))
          have hB2 : Below w.heap.size w w2 := (below_then (below_then hb hb1) (below_new _ _)).grown hg2 (by simp; omega) (fun j hj => by have := (hoa1.lt j hj).1; omega)
          have hg3 : w2.heap[w.heap.size]? = some (.cells (r3 0 0 0) 35 (0, 0)) := (hg2.block w.heap.size (by simp; omega) (fun e => by have := (hoa1.lt _ e.symm).1; omega)).trans (kept (below_new _ _) hg1)
          have hgN3 : w2.heap[w.heap.size + 1]? = some (.cells (r3 0 sw su) 35 (0, 0)) := (hg2.block (w.heap.size + 1) (by simp; omega) (fun e => by have := (hoa1.lt _ e.symm).1; omega)).trans (kept (below_new _ _) hgN1)
          have hgA3 := kept hB2 hgW
          clear hb hb1 hg hgN hgA hg1 hgN1 hgA1 hoa hoa1 hg2 hw2 cm hgW
          obtain ⟨R, hR⟩ : ∃ R, R = r3 0 sw su := ⟨_, rfl⟩
          have n1 : R[1]? = some (.int .i64 sw) := by rw [hR]; rfl
          have n2 : R[2]? = some (.int .i64 su) := by rw [hR]; rfl
          rw [← hR] at hgN3
          have HR := Lib.hid hR
          clear hR
          refine wp_region_tail2 9 (by kernel_rfl) (by kernel_rfl) (by kernel_rfl) (by kernel_rfl) rfl rfl (by kernel_rfl) (by kernel_rfl) ?_
          simp only [List.take, List.getD, List.getElem?_cons_succ, List.getElem?_cons_zero, Option.getD]
          repeat (first | ((with_reducible apply q_skip); (case hw => rfl); (try simp only [Act.put, List.setIfInBounds_toArray, List.set_cons_zero, List.set_cons_succ])) | ((with_reducible refine at_qload 33 ?_); refine q_load_fr (by rfl) 33 _ rfl (g) ((off + k * 29)) rfl _ (A) _ _ 29 (hgA3) Try.underlying33 rfl (by kernel_rfl) (by have := HZ.out; omega) (S k) (HEX.out) ?_; try simp only [Act.put, List.setIfInBounds_toArray, List.set_cons_zero, List.set_cons_succ]) | ((with_reducible refine at_qcall 28 ?_); refine q_call_in _ 28 _ (by rfl) (fun w' hb' => CW.out w' (hB2.trans (hb'.mono hB2.size))) (fun wq hbq => by go_simp) ?_; try simp only [Act.put, List.setIfInBounds_toArray, List.set_cons_zero, List.set_cons_succ]) | ((with_reducible apply q_val); (case hw => rfl); (case hv => intro wq hbq; have hcq := cellF (Ytnpjclodcgejgaa.kept hbq hgN3); go_simp; try rfl); (try simp only [Act.put, List.setIfInBounds_toArray, List.set_cons_zero, List.set_cons_succ])))
          refine q_nil ?_
          intro w4 hb4
          have hg4 := Ytnpjclodcgejgaa.kept hb4 hg3
          have hgN4 := Ytnpjclodcgejgaa.kept hb4 hgN3
          obtain ⟨e4, f4, l4⟩ := cells_of hgN4
          have hB4 := below_then hB2 hb4
          have ho4 := own_below hb4 ho2
          go_wp2_with fail
          refine at_world ?_
          intro w5 hw5
          have hg5 : w5.heap[w.heap.size]? = some (.cells (r3 0 0 0) 35 (0, 0)) := by rw [hw5]; exact heap_set_other hg4 (by omega)
          have hgN5 : w5.heap[w.heap.size + 1]? = some (.cells (R.setIfInBounds 1 (.int .i64 (sw + kwj))) 35 (0, 0)) := by rw [hw5]; exact heap_set hgN4
          have hB5 : Below w.heap.size w w5 := by rw [hw5]; exact below_set hB4 (by omega)
          have ho5 : w5.ownsRow (w.heap.size + 2) 30 26 v1 (k + 1) (flat (lg S) k ++ (lg S k).toList) := by rw [hw5]; exact ownsRow_setCell_below ho4 (by simp) _
          obtain ⟨R5, hR5⟩ : ∃ R5, R5 = R.setIfInBounds 1 (.int .i64 (sw + kwj)) := ⟨_, rfl⟩
          have n5 : R5[2]? = some (.int .i64 su) := by rw [hR5, Array.getElem?_setIfInBounds_ne (by omega)]; exact n2
          have HRR := Lib.hid (show R5.setIfInBounds 2 (.int .i64 (su + kuj)) = r3 0 (sw + kwj) (su + kuj) by rw [hR5, HR.out]; rfl)
          rw [← hR5] at hgN5
          have hgA5 : w5.heap[g]? = some (.cells A t fr) := by rw [hw5]; exact heap_set_other (Ytnpjclodcgejgaa.kept hb4 hgA3) (by have := HA.out.at_ k hlt; intro e; subst e; obtain ⟨g', _, _, _, _, h1, h2, _⟩ := this; cases h1; have := (Array.getElem?_eq_some_iff.1 h2).1; omega)
          clear hR5 hw5 hb4 hg4 hgN4 e4 f4 l4 hB4 ho4 n1 n2 hg3 hgN3 hB2 ho2 hgA3 HR
          refine wp_region_tail2 22 (by kernel_rfl) (by kernel_rfl) (by kernel_rfl) (by kernel_rfl) rfl rfl (by kernel_rfl) (by kernel_rfl) ?_
          simp only [List.take, List.getD, List.getElem?_cons_succ, List.getElem?_cons_zero, Option.getD]
          repeat (first | ((with_reducible apply q_skip); (case hw => rfl); (try simp only [Act.put, List.setIfInBounds_toArray, List.set_cons_zero, List.set_cons_succ])) | ((with_reducible apply q_val); (case hw => rfl); (case hv => intro wq hbq; have hcq := cellF (Ytnpjclodcgejgaa.kept hbq hgN5); have hcr := cellF (Ytnpjclodcgejgaa.kept hbq hgA5); go_simp; try rfl); (try simp only [Act.put, List.setIfInBounds_toArray, List.set_cons_zero, List.set_cons_succ])))
          refine q_nil ?_
          intro w6 hb6
          have hg6 := Ytnpjclodcgejgaa.kept hb6 hg5
          have hgN6 := Ytnpjclodcgejgaa.kept hb6 hgN5
          obtain ⟨e6, f6, l6⟩ := cells_of hgN6
          have hB6 := below_then hB5 hb6
          have ho6 := own_below hb6 ho5
          have hg7 := heap_set_other (i := 2) (v := .int .i64 (su + kuj)) (g := w.heap.size + 1) hg6 (by omega)
          have hgN7 := heap_set (i := 2) (v := .int .i64 (su + kuj)) hgN6
          rw [HRR.out] at hgN7
          have hB7 := below_set (i := 2) (v := .int .i64 (su + kuj)) hB6 (show w.heap.size ≤ w.heap.size + 1 by omega)
          have ho7 := ownsRow_setCell_below ho6 (a := ⟨w.heap.size + 1, 2, none⟩) (by simp) (.int .i64 (su + kuj))
          have HG7 := Lib.hid hg7
          have HGN7 := Lib.hid hgN7
          have HO7 := Lib.hid ho7
          clear hg7 hgN7 ho7 hg6 hgN5 hg5 hB5 ho5 hB6 ho6 hb6 hgA5
          go_wp2_with fail
          go_roundg (n - (k + 1))
          case measure => omega
          case rel => exact ⟨k + 1, v1, by omega, rfl, by go_num, rfl, HN.out, by rw [HV.out]; exact HO7.out, by rw [HV.out]; exact HG7.out, by rw [HV.out, HWn.out, HUn.out]; exact HGN7.out, by rw [HV.out]; exact hB7⟩
      · obtain rfl : k = n := by omega
        have HOK := Lib.hid hok
        clear hok
        obtain ⟨a1, c1, rfl, hl1⟩ := own_legs (lgs HS.out) hoa
        clear hoa
        have hto := okKs_ok HS.out k HOK.out
        have cm := rmargin_any (lg S) a1 k c1 wr (lgs HS.out) hl1 (by omega)
        cases hon : onceTo (lg S) k
        · have he : nE S O m k = 8 := by rw [HE.out, HOK.out, hon]; rfl
          have HF := Lib.hid (And.intro (need_not (S := S) (O := O) (m := m) (n := k) (by rw [he]; decide)) he)
          rw [show mE (lg S) k = 8 by unfold mE; rw [if_neg hlong, hto, hon]; rfl, show mN (lg S) k = 0 by unfold mN; rw [if_neg hlong, hto, hon]; rfl] at cm
          clear he hon hl1
          go_wp2_with fail
          refine cm.mono ?_
          rintro e w1 ⟨rfl, hb1⟩
          have hg1 := kept hb1 hg
          go_wp2_with (first | ((with_reducible refine at_build 35 ?_); refine wpList_build_named rfl 35 _ rfl (r3 0 0 0) (by kernel_rfl) ?_) | ((with_reducible refine at_store 35 ?_); refine wpList_store_over rfl 35 _ _ rfl (w.heap.size) (r3 0 0 0) rfl rfl _ _ (hg1) (by rw [H3.out]; kernel_rfl) (rfl) (r3_all 0 0 0) ?_; intro w2 hg2 hs2 ho2 hb2))
          have HG := hg2
          have HB := (below_then hb hb1).trans (hb2 _ (Nat.le_refl _))
          exact post_cell_tmp (g := w.heap.size) (t := 35) rfl rfl rfl rfl (HG) Try.underlying35 rfl (by kernel_rfl) ⟨by rw [HF.out.1, HF.out.2]; rfl, HB⟩
        · obtain ⟨me, mn⟩ := mE_of (L := lg S) (n := k) (by omega) hto hon
          have he : nE S O m k = 0 := by rw [HE.out, HOK.out, hon]; rfl
          have HF := Lib.hid (And.intro (need_ok (S := S) (O := O) (m := m) (n := k) he) he)
          rw [me, mn] at cm
          clear he hon hl1 me mn hto
          generalize sumTo (lg S) k 9 = M at *
          go_wp2_with fail
          refine cm.mono ?_
          rintro e w1 ⟨rfl, hb1⟩
          have hg1 := kept hb1 hg
          have hgN1 := kept hb1 hgN
          have hB1 := below_then hb hb1
          clear cm hb hb1 hg hgN
          have n2 : ((r3 0 (sW S O m k) (sU S k)).setIfInBounds 0 (.int .i64 M))[2]? = some (.int .i64 (sU S k)) := rfl
          generalize sW S O m k = sw at *
          generalize sU S k = su at *
          obtain ⟨e1, f1, _⟩ := cells_of hgN1
          have hgN2 := heap_set (i := 0) (v := .int .i64 M) hgN1
          obtain ⟨e2, f2, _⟩ := cells_of hgN2
          have h33 := Lib.hid (show (r3 M sw (max 0 su)).size = 3 from rfl)
          have hra := Lib.hid (r3_all M sw (max 0 su))
          have HF2 := Lib.hid (And.intro (show need S O m k = r3 M sw (max 0 su) from HF.out.1) HF.out.2)
          by_cases hlu : su < 0
          · have hs3 := Lib.hid (show (((r3 0 sw su).setIfInBounds 0 (.int .i64 M)).setIfInBounds 2 (.int .i64 0)).size = 3 by simp [r3])
            have hx3 := Lib.hid (show (((r3 0 sw su).setIfInBounds 0 (.int .i64 M)).setIfInBounds 2 (.int .i64 0)).extract 0 3 = r3 M sw (max 0 su) by rw [extract_all (by simp [r3]), show max 0 su = 0 by omega]; rfl)
            have hg5 := heap_set (i := 2) (v := .int .i64 0) hgN2
            have hg6 := heap_set_other (g := w.heap.size + 1) (i := 2) (v := .int .i64 0) (heap_set_other (g := w.heap.size + 1) (i := 0) (v := .int .i64 M) hg1 (by omega)) (by omega)
            have hb5 := below_set (g := w.heap.size + 1) (i := 2) (v := .int .i64 0) (below_set (g := w.heap.size + 1) (i := 0) (v := .int .i64 M) hB1 (by omega)) (show w.heap.size ≤ w.heap.size + 1 by omega)
            generalize hR0 : ((r3 0 sw su).setIfInBounds 0 (.int .i64 M)).setIfInBounds 2 (.int .i64 0) = R at *
            generalize r3 M sw (max 0 su) = R2 at *
            clear hR0
            go_wp2_with (first | ((with_reducible refine at_load 35 ?_); refine wpList_load_part rfl 35 _ rfl (w.heap.size + 1) (0) rfl _ (R) _ _ 3 (hg5) Try.underlying35 rfl (by kernel_rfl) (by rw [hs3.out]; omega) (R2) (hx3.out) ?_) | ((with_reducible refine at_store 35 ?_); refine wpList_store_over rfl 35 _ _ rfl (w.heap.size) (R2) rfl rfl _ _ (hg6) (by rw [h33.out]; kernel_rfl) (by rw [h33.out]; rfl) (hra.out) ?_; intro w6 hg7 hs6 ho6 hb6))
            exact post_cell_tmp (g := w.heap.size) (t := 35) rfl rfl rfl rfl hg7 Try.underlying35 rfl (by rw [h33.out]; kernel_rfl) ⟨by rw [HF2.out.1, HF2.out.2]; rfl, hb5.trans (hb6 _ (Nat.le_refl _))⟩
          · have hs3 := Lib.hid (show ((r3 0 sw su).setIfInBounds 0 (.int .i64 M)).size = 3 by simp [r3])
            have hx3 := Lib.hid (show ((r3 0 sw su).setIfInBounds 0 (.int .i64 M)).extract 0 3 = r3 M sw (max 0 su) by rw [extract_all (by simp [r3]), show max 0 su = su by omega]; rfl)
            have hg5 := hgN2
            have hg6 := heap_set_other (g := w.heap.size + 1) (i := 0) (v := .int .i64 M) hg1 (by omega)
            have hb5 := below_set (g := w.heap.size + 1) (i := 0) (v := .int .i64 M) hB1 (show w.heap.size ≤ w.heap.size + 1 by omega)
            generalize hR0 : (r3 0 sw su).setIfInBounds 0 (.int .i64 M) = R at *
            generalize r3 M sw (max 0 su) = R2 at *
            clear hR0
            go_wp2_with (first | ((with_reducible refine at_load 35 ?_); refine wpList_load_part rfl 35 _ rfl (w.heap.size + 1) (0) rfl _ (R) _ _ 3 (hg5) Try.underlying35 rfl (by kernel_rfl) (by rw [hs3.out]; omega) (R2) (hx3.out) ?_) | ((with_reducible refine at_store 35 ?_); refine wpList_store_over rfl 35 _ _ rfl (w.heap.size) (R2) rfl rfl _ _ (hg6) (by rw [h33.out]; kernel_rfl) (by rw [h33.out]; rfl) (hra.out) ?_; intro w6 hg7 hs6 ho6 hb6))
            exact post_cell_tmp (g := w.heap.size) (t := 35) rfl rfl rfl rfl hg7 Try.underlying35 rfl (by rw [h33.out]; kernel_rfl) ⟨by rw [HF2.out.1, HF2.out.2]; rfl, hb5.trans (hb6 _ (Nat.le_refl _))⟩
end Go.Proofs.Ytnpjclodcgejgaa
