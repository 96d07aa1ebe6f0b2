/- tearup's Parts where the question is one. Condition: the numbers fit their kinds. -/
import Derived.Test.YticdcdahehodkaaTear1
import Derived.Laws.EntriesVeiled
namespace Go.Proofs.Yticdcdahehodkaa
set_option linter.unusedVariables false
set_option linter.unusedSimpArgs false
open Go.RowKit

set_option maxRecDepth 100000 in
set_option maxHeartbeats 8000000 in
theorem tparts_ok (a : Option Addr) (n cap : Nat) (A Q : Nat → Int) (q : Int) (w : World) (hb : ∀ i, (0 ≤ A i ∧ A i ≤ 4294967295) ∧ F64 (Q i)) (hA : Holds w a n A Q) (hn : n ≤ 64) (hq0 : q ≠ 0) (hq : -10000000 ≤ q ∧ q ≤ 10000000) (hm : hmay A Q n = true) : TearC a n cap A Q q w := by
  have hni : ¬ (64 : Int) < n := by omega
  have cm := fun w2 hb2 => tmay_any a n cap A Q w2 hb (hA.kept (w' := w2) hb2) (by omega)
  have cw := fun w => within_any q 10000000 w (by unfold F64; omega) (by omega) (by omega)
  rw [inB_iff.2 hq] at cw
  rw [hm] at cm
  have hqz : (q == 0) = false := by rw [beq_eq_false_iff_ne]; exact hq0
  have HQ := Lib.hid hq
  have HA := Lib.hid hA
  have HM := Lib.hid hm
  have HB := Lib.hid hb
  clear hA hm hb
  have hTE := Lib.hid (show tE q n A Q = if sumZ (tW q n Q) n < absI q then 7 else 0 from by
    unfold tE; rw [if_neg (by omega), if_neg (fun h => ?_)]
    rcases h with h | h | h
    · exact hq0 h
    · rw [inB_iff.2 hq] at h; cases h
    · rw [HM.out] at h; cases h)
  unfold TearC
  obtain ⟨te, hte⟩ : ∃ te, te = tE q n A Q := ⟨_, rfl⟩
  rw [← hte]
  have HTE := Lib.hid hte
  clear hq hte
  go_enter Try.func12, Try.ntmps12
  go_wp2_with (first | (go_at_call 19; (with_reducible refine (cw _).mono ?_); rintro e w1 ⟨rfl, rfl⟩) | (go_at_call 20; (with_reducible refine (cm _ (below_new _ _)).mono ?_); rintro e w1 ⟨rfl, hb1⟩))
  have hs1 : w.heap.size < w1.heap.size := by have := hb1.size; simp at this; omega
  obtain ⟨g0, hg0⟩ : ∃ g, g = w.heap.size := ⟨_, rfl⟩
  obtain ⟨g1, hg1⟩ : ∃ g, g = w1.heap.size := ⟨_, rfl⟩
  have hq1 : w1.heap[g0]? = some (.cells #[.int .i64 q] 2 (0, 0)) := by rw [hg0]; exact Yticdcdahehodkaa.kept hb1 (heap_alloc_new w _)
  have hB1 := below_then (below_new w (Obj.cells #[.int .i64 q] 2)) hb1
  rw [← hg0, ← hg1]
  obtain ⟨wb, hwb⟩ : ∃ wb, wb = w1.alloc (Obj.cells #[.func (.func 21) #[] #[]] 47) := ⟨_, rfl⟩
  rw [← hwb]
  have hbq : wb.heap[g0]? = some (.cells #[.int .i64 q] 2 (0, 0)) := by rw [hwb]; exact Yticdcdahehodkaa.kept (below_new _ _) hq1
  have hbf : wb.heap[g1]? = some (.cells #[.func (.func 21) #[] #[]] 47 (0, 0)) := by rw [hwb, hg1]; exact heap_alloc_new _ _
  have HBB := Lib.hid (show Below w.heap.size w wb from by rw [hwb]; exact below_alloc hB1 _)
  have TP := Lib.hid (fun (wx : World) (hx : Below wb.heap.size wb wx) (x : Int) (h : -10000000 ≤ x ∧ x ≤ 10000000) => topp_any x q g0 g1 _ _ _ _ wx (by omega) (Yticdcdahehodkaa.kept hx hbq) (Yticdcdahehodkaa.kept hx hbf))
  have CQ := Lib.hid (fun (wx : World) (hx : Below wb.heap.size wb wx) => show wx.cell? ⟨g0, 0, none⟩ = some (.int .i64 q) ∧ wx.cell? ⟨g1, 0, none⟩ = some (.func (.func 21) #[] #[]) from
    ⟨cellF (Yticdcdahehodkaa.kept hx hbq) 0, cellF (Yticdcdahehodkaa.kept hx hbf) 0⟩)
  obtain ⟨b, hbs⟩ : ∃ b, b = wb.heap.size := ⟨_, rfl⟩
  have hwsz := HBB.out.size
  rw [← hbs] at hwsz
  clear hwb hbq hbf hq1 hB1 hb1 hg0 hg1 hs1 cm cw
  go_loopg [8, 9, 37] n (fun gh v8 v9 vi wr => ∃ k : Nat, k ≤ n ∧ gh = n - k ∧ vi = .int .i64 k ∧ v9 = .int .i64 (sumZ (tW q n Q) k) ∧ wr.ownsRow b 2 1 v8 k (zl (tW q n Q) k) ∧ Below wb.heap.size wb wr)
  case atStart => exact ⟨0, by omega, by omega, rfl, rfl, World.ownsRow_nil _ _ _ _, Below.refl _ _⟩
  case round =>
    obtain ⟨k, hk, rfl, rfl, rfl, hown, hbw⟩ := hrel
    have HO := Lib.hid hown
    have HW := Lib.hid hbw
    have HSM := Lib.hid (tW_sum (q := q) HM.out k hk)
    clear hown hbw
    by_cases hlt : k < n
    · obtain ⟨g, off, B, t, fr, rfl, hg, hs, he, c0, c1⟩ := (HA.out.kept (below_then HBB.out HW.out)).at hlt
      have hki : (k : Int) < n := by omega
      have hqk := (hmay_at HM.out hlt).2
      have hop := oppI_bd (q := q) hqk
      have HNX := Lib.hid (show sumZ (tW q n Q) (k + 1) = sumZ (tW q n Q) k + oppI q (Q k) from by
        show sumZ (tW q n Q) k + tW q n Q k = _
        rw [show tW q n Q k = oppI q (Q k) from if_pos hlt])
      have HZL := Lib.hid (show zl (tW q n Q) k ++ zl (fun _ => oppI q (Q k)) 1 = zl (tW q n Q) (k + 1) from by
        have := zl_snoc (tW q n Q) k
        rwa [show tW q n Q k = oppI q (Q k) from if_pos hlt] at this)
      obtain ⟨s0, hs0⟩ : ∃ s0, s0 = sumZ (tW q n Q) k := ⟨_, rfl⟩
      have hsb := HSM.out
      rw [← hs0] at HNX hsb ⊢
      have ct := fun wx hx => TP.out wx hx (Q k) hqk
      generalize oppI q (Q k) = m at *
      generalize A k = x at *
      generalize Q k = y at *
      have e0 := hA_0 x y
      have e1 := hA_1 x y
      have ws : IntKind.i64.wrap (s0 + m) = s0 + m := by rw [IntKind.wrap_i64]; omega
      have HBW := Lib.hid (below_alloc (o := Obj.cells (hA x y) 32) HW.out)
      have HNEW := Lib.hid (show ((wr.alloc (Obj.cells (hA x y) 32)).alloc (Obj.cells #[.int .i64 m] 2)).heap[wr.heap.size + 1]? = some (.cells #[.int .i64 m] 2 (0, 0)) from by have := heap_alloc_new (wr.alloc (Obj.cells (hA x y) 32)) (Obj.cells #[.int .i64 m] 2); simpa using this)
      have HOLD := Lib.hid (show ((wr.alloc (Obj.cells (hA x y) 32)).alloc (Obj.cells #[.int .i64 m] 2)).heap[wr.heap.size]? = some (.cells (hA x y) 32 (0, 0)) from (by repeat (first | exact heap_new (by simp; done) | refine heap_up ?_)))
      clear hs0
      go_wp2_with (first | ((with_reducible refine at_load 32 ?_); refine wpList_load_part rfl 32 _ rfl (g) (off + k * 2) rfl _ (B) _ _ 2 (hg) Try.underlying32 rfl (by kernel_rfl) (hs) (hA x y) (he) ?_) | ((with_reducible refine at_alloc 32 ?_); refine wpList_alloc_named rfl 32 rfl (hA 0 0) (by kernel_rfl) ?_) | ((with_reducible refine at_store 32 ?_); refine wpList_store_new rfl 32 _ _ rfl (hA x y) _ _ _ rfl (by simp) rfl (by rw [hA_size _ _]; kernel_rfl) (by rw [hA_size _ _]; rfl) (hA_all _ _) ?_) | (go_at_call 22; (with_reducible refine (ct _ HBW.out).mono ?_); rintro e wx ⟨rfl, rfl⟩) | (go_at_call 22; (with_reducible refine (ct _ HB2.out).mono ?_); rintro e wx ⟨rfl, rfl⟩) | ((with_reducible refine at_append 48 ?_); refine wpList_append_ints rfl _ _ rfl b u8 k (zl (tW q n Q) k) rfl ((HO.out.alloc _).alloc _) (some ⟨wr.heap.size + 1, 0, none⟩) 1 1 (fun _ => m) rfl (fun i hi => ⟨wr.heap.size + 1, 0, #[.int .i64 m], _, _, rfl, HNEW.out, by obtain rfl : i = 0 := (by omega); rfl⟩) (fun h => by cases h) (by omega) (by have := HW.out.size; simp; omega) ?_; intro v1 w2 hown2 hgr2; have HB2 := Lib.hid ((below_alloc HBW.out _).grown hgr2 (by have := HW.out.size; simp; omega) (fun p hp => by rw [← hbs]; exact (HO.out.lt p hp).1)); replace hown2 := Lib.hid hown2; have c21 : w2.cell? ⟨wr.heap.size, 1, none⟩ = some (.int .i64 y) := (by rw [cellF (show w2.heap[wr.heap.size]? = some (.cells (hA x y) 32 (0, 0)) from by rw [hgr2.block _ (by simp; omega) (fun e => by have := (HO.out.lt _ e.symm).2; omega)]; exact HOLD.out)]; rfl); clear hgr2))
      go_roundg (n - (k + 1))
      case measure => omega
      case rel => exact ⟨k + 1, by omega, rfl, by go_num, by rw [HNX.out], by rw [← HZL.out]; exact hown2.out, HB2.out⟩
    · obtain rfl : k = n := by omega
      obtain ⟨a7, c7, rfl, hI7⟩ := own_ints HO.out
      obtain ⟨q0, q1⟩ := CQ.out wr HW.out
      have cz := fun w => tsize_any q w (by have := HQ.out; omega)
      have hqa := absI_bd HQ.out
      have hsb := HSM.out
      obtain ⟨s0, hs0⟩ : ∃ s0, s0 = sumZ (tW q k Q) k := ⟨_, rfl⟩
      have HS0 := Lib.hid hs0
      rw [← hs0] at hsb ⊢
      by_cases hlow : s0 < absI q
      · have h7 : te = 7 := by rw [HTE.out, hTE.out, if_pos (by rw [← hs0]; exact hlow)]
        subst h7
        clear hs0
        generalize absI q = z at *
        go_wp2_with (first | (go_at_call 21; (with_reducible refine (cz _).mono ?_); rintro e wx ⟨rfl, rfl⟩))
        go_ret2
        exact ⟨⟨_, rfl, fun h => by rw [← HTE.out] at h; omega, fun _ => rfl⟩, below_then HBB.out HW.out⟩
      · have h7 : te = 0 := by rw [HTE.out, hTE.out, if_neg (by rw [← hs0]; exact hlow)]
        subst h7
        have hsp := tW_split (q := q) HM.out hn hq0 HQ.out (by rw [← hs0]; omega)
        have cs := split_any a7 k c7 (tW q k Q) (absI q) wr (fun i => by have := tW_bd (q := q) HM.out i; unfold F64; omega) hI7 (by unfold F64; omega)
        unfold SplC at cs
        rw [hsp] at cs
        have HSP := Lib.hid hsp
        have HPP := Lib.hid (show tP q k Q = splP (tW q k Q) k (absI q) from rfl)
        clear hs0 hsp hI7
        generalize absI q = z at *
        go_wp2_with (first | (go_at_call 21; (with_reducible refine (cz _).mono ?_); rintro e wx ⟨rfl, rfl⟩) | (go_at_call 23; (with_reducible refine (cs).mono ?_); rintro e w5 ⟨⟨v5, rfl, hv5⟩, hb5⟩; obtain ⟨gp, PA, rfl, hgp, hPA, hPs, hPp⟩ := hv5.1 HSP.out; replace hPA := Lib.hid hPA; replace hPp := Lib.hid hPp; replace hb5 := Lib.hid hb5; clear hv5 hPs hgp))
        have HB5 := Lib.hid (below_then HBB.out (below_then HW.out hb5.out))
        rw [show splP (tW q k Q) k z = tP q k Q from HPP.out.symm] at hPp
        obtain ⟨pp, hpp⟩ : ∃ pp, pp = tP q k Q := ⟨_, rfl⟩
        rw [← hpp] at hPp
        have HPE := Lib.hid hpp
        have hz5 := HB5.out.size
        clear cz hpp HO HS0 hqa hsb HSP HPP TP CQ hb5 hlow q0 q1
        go_loopg [14, 73] k (fun gh v14 vi wr => ∃ j : Nat, j ≤ k ∧ gh = k - j ∧ vi = .int .i64 j ∧ wr.ownsRow w5.heap.size 32 2 v14 (tm pp j) (flat (tR A pp j) (tm pp j)) ∧ Below w5.heap.size w5 wr)
        case atStart => exact ⟨0, by omega, by omega, rfl, World.ownsRow_nil _ _ _ _, Below.refl _ _⟩
        case round =>
          obtain ⟨j, hj, rfl, rfl, hown, hbw⟩ := hrel
          have HO := Lib.hid hown
          have HX := Lib.hid hbw
          clear hown hbw
          by_cases hlt : j < k
          · have hcp := ((cells_of (Yticdcdahehodkaa.kept HX.out hPA.out)).1 j).trans (hPp.out j hlt)
            obtain ⟨g, off, B, t, fr, rfl, hg, hs, he, c0, c1⟩ := (HA.out.kept (below_then HB5.out HX.out)).at hlt
            have hjk : (j : Int) < k := by omega
            have HT1 := Lib.hid (tm_succ pp j)
            have hst : tm pp j ≤ 64 := by have := cnt_le (fun i => decide (0 < pp i)) j; unfold tm; omega
            obtain ⟨m, hm⟩ : ∃ m, m = pp j := ⟨_, rfl⟩
            rw [← hm] at hcp HT1
            by_cases hp0 : 0 < m
            · have hpi : 0 < (m : Int) := by omega
              have HR1 := Lib.hid (show flat (tR A pp (j + 1)) (tm pp (j + 1)) = flat (tR A pp j) (tm pp j) ++ (hA (A j) (m : Int)).toList from by
                have e1 : tm pp (j + 1) = tm pp j + 1 := by rw [HT1.out, if_pos hp0]
                have e2 : tR A pp (j + 1) = snoc (tR A pp j) (tm pp j) (hA (A j) (m : Int)) := by
                  show (if 0 < pp j then snoc (tR A pp j) (tm pp j) (hA (A j) (pp j : Nat)) else tR A pp j) = _
                  rw [← hm, if_pos hp0]
                rw [e1, e2, flat_snoc])
              have HT2 := Lib.hid (show tm pp (j + 1) = tm pp j + 1 from by rw [HT1.out, if_pos hp0])
              generalize A j = x at *
              clear hm c1
              go_wp2_with (first | ((with_reducible refine at_build 32 ?_); refine wpList_build_named rfl 32 _ rfl (hA x (m : Int)) (by kernel_rfl) ?_) | ((with_reducible refine at_slice1 22 ?_); obtain ⟨ip, zp, ip1, ip2, ip3, ip4, ip5⟩ := info_hold; refine wpList_slice1c rfl 22 32 _ rfl (hA x (m : Int)) 2 rfl (hA_size _ _) ip zp Try.underlying22 ip1 ip2 ip3 ip5 (by omega) (by omega) ?_; clear ip1 ip2 ip3 ip4 ip5) | ((with_reducible refine at_append 22 ?_); refine wpList_append_row1 rfl _ _ rfl Try.underlying22 info_hold (by omega) (hA_size _ _) (hA_all _ _) w5.heap.size u14 (tm pp j) _ rfl HO.out rfl (by omega) HX.out.size ?_; intro v8 w8 ho8 hg8 hq8; replace ho8 := Lib.hid ho8; replace hg8 := Lib.hid hg8; replace hq8 := Lib.hid hq8))
              go_roundg (k - (j + 1))
              case measure => omega
              case rel => exact ⟨j + 1, by omega, rfl, by go_num, by rw [HR1.out, HT2.out]; exact ho8.out, (below_alloc HX.out _).grown hg8.out (by have := HX.out.size; simp; omega) hq8.out⟩
            · have hpi : ¬ 0 < (m : Int) := by omega
              have HR1 := Lib.hid (show flat (tR A pp (j + 1)) (tm pp (j + 1)) = flat (tR A pp j) (tm pp j) from by
                have e1 : tm pp (j + 1) = tm pp j := by rw [HT1.out, if_neg hp0]; rfl
                have e2 : tR A pp (j + 1) = tR A pp j := by
                  show (if 0 < pp j then snoc (tR A pp j) (tm pp j) (hA (A j) (pp j : Nat)) else tR A pp j) = _
                  rw [← hm, if_neg hp0]
                rw [e1, e2])
              have HT2 := Lib.hid (show tm pp (j + 1) = tm pp j from by rw [HT1.out, if_neg hp0]; rfl)
              clear hm c0 c1
              go_wp2
              go_roundg (k - (j + 1))
              case measure => omega
              case rel => exact ⟨j + 1, by omega, rfl, by go_num, by rw [HR1.out, HT2.out]; exact HO.out, HX.out⟩
          · obtain rfl : j = k := by omega
            go_wp2
            go_ret2
            exact ⟨⟨_, rfl, fun _ => by rw [← HPE.out]; exact own_weak HO.out hz5, fun h => absurd HTE.out.symm h⟩, below_then HB5.out HX.out⟩
end Go.Proofs.Yticdcdahehodkaa
