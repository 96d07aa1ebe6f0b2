/- Texts that Settles13Law stands on, one behind the other, part 16. Conditions: each theorem names its own. -/
import Derived.Test.YticdcdahehodkaaMgSettles13Law15
import Derived.OwnWalk
import Derived.Deep.CutBlock
/-! The document's Settle: what becomes of any dues and any fund, or why nothing does. Condition: the numbers fit their kinds. -/
namespace Go.Proofs.Yticdcdahehodkaa
set_option linter.unusedVariables false
set_option linter.unusedSimpArgs false
open Go.RowKit

theorem wz1 : nm false z12 = (nm false z12) := rfl
set_option maxRecDepth 100000 in
set_option maxHeartbeats 4000000 in
theorem rset_bad (fund : Int) (a : Option Addr) (n cap : Nat) (A C V : Nat → Int) (w : World) (h : 64 < n ∨ inB fund 0 1000000000000000 = false) : RSetC fund a n cap A C V w := by
  by_cases hn : 64 < n
  · have he : sE fund n A C V = 3 := if_pos hn
    have hf : sF fund n A C V = 0 := by unfold sF; rw [he]; rfl
    unfold RSetC
    rw [he, hf]
    have HE := Lib.hid he
    have hni : (64 : Int) < n := by omega
    clear he hf h
    go_enter Try.func17, Try.ntmps17
    go_wp2
    go_ret3
    exact ⟨⟨_, rfl, fun h => by rw [HE.out] at h; omega, fun _ => rfl⟩, Below.refl _ _⟩
  · have h2 := h.resolve_left hn
    have he : sE fund n A C V = 2 := by unfold sE; rw [if_neg hn, if_pos (by rw [h2, Bool.and_false])]
    have hf : sF fund n A C V = 0 := by unfold sF; rw [he]; rfl
    unfold RSetC
    rw [he, hf]
    have HE := Lib.hid he
    have hni : ¬ (64 : Int) < n := by omega
    have h3 := inB_no.1 h2
    clear he hf h h2
    by_cases h4 : fund < 0
    · clear h3
      go_enter Try.func17, Try.ntmps17
      go_wp2
      go_ret3
      exact ⟨⟨_, rfl, fun h => by rw [HE.out] at h; omega, fun _ => rfl⟩, Below.refl _ _⟩
    · have h5 : 1000000000000000 < fund := by omega
      clear h3
      go_enter Try.func17, Try.ntmps17
      go_wp2
      go_ret3
      exact ⟨⟨_, rfl, fun h => by rw [HE.out] at h; omega, fun _ => rfl⟩, Below.refl _ _⟩

set_option maxRecDepth 100000 in
set_option maxHeartbeats 8000000 in
theorem rset_main (fund : Int) (a : Option Addr) (n cap : Nat) (A C V : Nat → Int) (w : World) (hb : ∀ i, (0 ≤ A i ∧ A i ≤ 4294967295) ∧ F64 (C i) ∧ F64 (V i)) (hA : Dues w a n A C V) (hn : n ≤ 64) (hf : 0 ≤ fund ∧ fund ≤ 1000000000000000) : RSetC fund a n cap A C V w := by
  have hni : ¬ (64 : Int) < n := by omega
  have hf1 : ¬ fund < 0 := by omega
  have hf2 : ¬ 1000000000000000 < fund := by omega
  have HF := Lib.hid hf
  have HA := Lib.hid hA
  have HB := Lib.hid hb
  have hZ : ∀ i, F64 (V i) := fun i => (hb i).2.2
  have HX : ∀ k, k ≤ 64 → (xn V k).size = 13 ∧ (xn V k).all (·.oneCell') = true := fun k hk => ⟨nm_size (xs_all hZ k (by omega)).1.size, nm_all (xs_all hZ k (by omega)).1⟩
  have HX := Lib.hid HX
  have HC := Lib.hid (show ∀ k, k ≤ 64 → ∀ w, Calls Try.prog 28 #[.agg (xn V k), .agg (nm (oS (V k)) (oV (V k)))] w fun e w' => e = .returned (.agg (xn V (k + 1))) ∧ Below w.heap.size w w' from
    fun k hk w => add_any _ _ _ _ w (xs_all hZ k (by omega)).1 (oV_D (V k)))
  have HCO := Lib.hid (fun (k : Nat) w => of_any' (V k) w (hZ k))
  have HCZ := Lib.hid (show ∀ w, Calls Try.prog 29 #[.agg (xn V n)] w fun e w' => e = .returned (.bool (decide (sumZ V n = 0))) ∧ Below w.heap.size w w' from fun w => by
    obtain ⟨h1, h2, _⟩ := xs_all hZ n (by omega)
    have c := zero_any (xs V n).1 (xs V n).2 w h1
    have e : decide (lv (xs V n).2 12 = 0) = decide (sumZ V n = 0) := by
      unfold sv at h2
      rw [decide_eq_decide]
      split at h2 <;> omega
    rw [e] at c
    exact c)
  have C0 := fun w => of_any' 0 w (by unfold F64; omega)
  rw [show nm (oS 0) (oV 0) = xn V 0 from rfl] at C0
  have HZs := Lib.hid (show (nm false z12).size = 13 from nm_size z12_D.size)
  have HTE0 := Lib.hid (show dmay A C V n = false → sE fund n A C V = 2 ∧ sF fund n A C V = 0 from fun h => by
    have e : sE fund n A C V = 2 := by unfold sE; rw [if_neg (by omega), if_pos (by rw [h, Bool.false_and])]
    exact ⟨e, by unfold sF; rw [e]; rfl⟩)
  have HTE1 := Lib.hid (show dmay A C V n = true → sumZ V n ≠ 0 → sE fund n A C V = 130 ∧ sF fund n A C V = 0 from fun h h2 => by
    have e : sE fund n A C V = 130 := by unfold sE; rw [if_neg (by omega), h, inB_iff.2 hf, if_neg (by simp), if_pos h2]
    exact ⟨e, by unfold sF; rw [e]; rfl⟩)
  have HTE2 := Lib.hid (show dmay A C V n = true → sumZ V n = 0 → sE fund n A C V = 0 ∧ sF fund n A C V = fund - min fund (miss C V n) from fun h h2 => by
    have e : sE fund n A C V = 0 := by unfold sE; rw [if_neg (by omega), h, inB_iff.2 hf, if_neg (by simp), if_neg (by omega)]
    exact ⟨e, by unfold sF; rw [if_pos e]⟩)
  unfold RSetC
  obtain ⟨te, hte⟩ : ∃ te, te = sE fund n A C V := ⟨_, rfl⟩
  obtain ⟨tf, htf⟩ : ∃ tf, tf = sF fund n A C V := ⟨_, rfl⟩
  rw [← hte, ← htf]
  have HTE := Lib.hid hte
  have HTF := Lib.hid htf
  generalize hZ0 : nm false z12 = Z0 at *
  have HZ0 := Lib.hid hZ0
  clear hZ0 hf hte htf hA hb hZ
  go_enter Try.func17, Try.ntmps17
  go_wp2_with (first | ((with_reducible refine at_alloc 58 ?_); refine wpList_alloc_named rfl 58 rfl Z0 (by rw [← HZ0.out]; kernel_rfl) ?_) | (go_at_call 27; (with_reducible refine (C0 _).mono ?_); rintro e w1 ⟨rfl, hb1⟩) | ((with_reducible refine at_store 58 ?_); refine wpList_store_new rfl 58 _ _ rfl (xn V 0) _ _ _ rfl (by simp) rfl (by rw [(HX.out 0 (by omega)).1]; kernel_rfl) (by rw [(HX.out 0 (by omega)).1]; exact HZs.out) (HX.out 0 (by omega)).2 ?_))
  obtain ⟨gS, hgS⟩ : ∃ g, g = w1.heap.size := ⟨_, rfl⟩
  obtain ⟨w2, hw2⟩ : ∃ w2, w2 = w1.alloc (.cells (xn V 0) 58) := ⟨_, rfl⟩
  have hS2 : w2.heap[gS]? = some (.cells (xn V 0) 58 (0, 0)) := by rw [hw2, hgS]; exact heap_alloc_new _ _
  have hb2 : Below w.heap.size w w2 := by rw [hw2]; exact below_alloc hb1 _
  have hgw : w.heap.size ≤ gS := by rw [hgS]; exact hb1.size
  rw [← hw2, ← hgS]
  clear hw2 hgS hb1 C0
  go_loopg [8] n (fun gh v8 wr => ∃ k : Nat, k ≤ n ∧ gh = n - k ∧ v8 = .int .i64 k ∧ dmay A C V k = true ∧ wr.heap[gS]? = some (.cells (xn V k) 58 (0, 0)) ∧ Below w.heap.size w wr)
  case atStart => exact ⟨0, by omega, by omega, rfl, rfl, hS2, hb2⟩
  case round =>
    clear hS2 hb2
    obtain ⟨k, hk, rfl, rfl, hm, hS, hbw⟩ := hrel
    have HM := Lib.hid hm
    have HW := Lib.hid hbw
    clear hm hbw
    have HXS := Lib.hid (HX.out k (by omega)).1
    have HXA := Lib.hid (HX.out k (by omega)).2
    have HXE := Lib.hid (extract_all HXS.out)
    by_cases hlt : k < n
    · skip
      obtain ⟨g, off, B, t, fr, rfl, hg, hs, he, b0, b1, b2⟩ := (HA.out.kept HW.out).at hlt
      have hki : (k : Int) < n := by omega
      have HBAD := Lib.hid (fun (h : ¬ dOk A C V k) => show te = 2 ∧ tf = 0 from by
        obtain ⟨h1, h2⟩ := HTE0.out (dmay_no (A := A) (C := C) (V := V) n hlt h)
        exact ⟨HTE.out.trans h1, HTF.out.trans h2⟩)
      have HYES := Lib.hid (fun h => dmay_next (A := A) (C := C) (V := V) HM.out h)
      have hx := (HB.out k).1
      have hc := (HB.out k).2.1
      have hv := (HB.out k).2.2
      have cO := HCO.out k
      have cP := HC.out k (by omega)
      have HYS := Lib.hid (HX.out (k + 1) (by omega)).1
      have HYA := Lib.hid (HX.out (k + 1) (by omega)).2
      unfold F64 at hc hv
      have hglt := (Array.getElem?_eq_some_iff.1 hg).1
      by_cases hk0 : k = 0
      · have hkp : ¬ (0 : Int) < (k : Int) := by omega
        have hkp2 : ¬ 0 < k := by omega
        unfold dOk at HBAD HYES
        rw [if_pos hk0] at HBAD HYES
        obtain ⟨x, hxe⟩ : ∃ x, x = A k := ⟨_, rfl⟩
        obtain ⟨c, hce⟩ : ∃ c, c = C k := ⟨_, rfl⟩
        obtain ⟨v, hve⟩ : ∃ v, v = V k := ⟨_, rfl⟩
        obtain ⟨X, hXe⟩ : ∃ X, X = xn V k := ⟨_, rfl⟩
        obtain ⟨Y, hYe⟩ : ∃ Y, Y = xn V (k + 1) := ⟨_, rfl⟩
        obtain ⟨Z1, hZe⟩ : ∃ Z1, Z1 = nm (oS v) (oV v) := ⟨_, rfl⟩
        have HYY := Lib.hid hYe.symm
        rw [← hxe] at HBAD HYES hx
        rw [← hxe, ← hce, ← hve] at he
        rw [← hce] at HBAD HYES hc
        rw [← hve] at HBAD HYES hv cO cP
        rw [← hZe] at cO cP
        rw [← hXe] at cP HXS HXA HXE hS
        rw [← hYe] at cP HYS HYA
        clear hxe hce hve hXe hYe hZe b0 b1 b2
        have hgN : (wr.alloc (.cells (dA x c v) 39)).heap[g]? = some (.cells B t fr) := heap_up hg
        have hsN : (wr.alloc (.cells (dA x c v) 39)).heap[gS]? = some (.cells X 58 (0, 0)) := heap_up hS
        have hdN : (wr.alloc (.cells (dA x c v) 39)).heap[wr.heap.size]? = some (.cells (dA x c v) 39 (0, 0)) := heap_alloc_new _ _
        have e0 := dA_0 x c v
        have e1 := dA_1 x c v
        have e2 := dA_2 x c v
        clear hk0
        by_cases hx0 : x = 0
        · obtain ⟨h2, h2f⟩ := HBAD.out (fun h => by have := h.1; have := h.2.1; omega)
          subst h2; subst h2f
          have hxz : (x == 0) = true := by rw [beq_iff_eq]; exact hx0
          clear hx0
          go_upto_region 10 with (first | ((with_reducible refine at_load 39 ?_); refine wpList_load_part rfl 39 _ rfl (g) (off + k * 3) rfl _ (B) _ _ 3 (hg) Try.underlying39 rfl (by kernel_rfl) (hs) (dA x c v) (he) ?_) | ((with_reducible refine at_alloc 39 ?_); refine wpList_alloc_named rfl 39 rfl (dA 0 0 0) (by kernel_rfl) ?_) | ((with_reducible refine at_store 39 ?_); refine wpList_store_new rfl 39 _ _ rfl (dA x c v) _ _ _ rfl (by simp) rfl (by rw [dA_size _ _ _]; kernel_rfl) (by rw [dA_size _ _ _]; rfl) (dA_all _ _ _) ?_))
          refine wp_region_below (by kernel_rfl) (by kernel_rfl) ?_
          repeat (first | ((with_reducible apply q_skip); (case hw => rfl); (try simp only [Act.put, List.setIfInBounds_toArray, List.set_cons_zero, List.set_cons_succ])) | ((with_reducible apply q_val); (case hw => rfl); (case hv => intro wq hbq; have hcq := cellF (Yticdcdahehodkaa.kept hbq hgN); have hcd := cellF (Yticdcdahehodkaa.kept hbq hdN); go_simp; try rfl); (try simp only [Act.put, List.setIfInBounds_toArray, List.set_cons_zero, List.set_cons_succ])))
          refine q_nil ?_
          intro w4 hb4
          go_wp2
          go_ret3
          exact ⟨⟨_, rfl, fun h => by rw [← HTE.out] at h; omega, fun _ => rfl⟩, below_then (below_alloc HW.out _) hb4⟩
        have hxz : (x == 0) = false := by rw [beq_eq_false_iff_ne]; exact hx0
        by_cases hc1 : c < 0
        · obtain ⟨h2, h2f⟩ := HBAD.out (fun h => by have := h.2.1; omega)
          subst h2; subst h2f
          go_upto_region 10 with (first | ((with_reducible refine at_load 39 ?_); refine wpList_load_part rfl 39 _ rfl (g) (off + k * 3) rfl _ (B) _ _ 3 (hg) Try.underlying39 rfl (by kernel_rfl) (hs) (dA x c v) (he) ?_) | ((with_reducible refine at_alloc 39 ?_); refine wpList_alloc_named rfl 39 rfl (dA 0 0 0) (by kernel_rfl) ?_) | ((with_reducible refine at_store 39 ?_); refine wpList_store_new rfl 39 _ _ rfl (dA x c v) _ _ _ rfl (by simp) rfl (by rw [dA_size _ _ _]; kernel_rfl) (by rw [dA_size _ _ _]; rfl) (dA_all _ _ _) ?_))
          refine wp_region_below (by kernel_rfl) (by kernel_rfl) ?_
          repeat (first | ((with_reducible apply q_skip); (case hw => rfl); (try simp only [Act.put, List.setIfInBounds_toArray, List.set_cons_zero, List.set_cons_succ])) | ((with_reducible apply q_val); (case hw => rfl); (case hv => intro wq hbq; have hcq := cellF (Yticdcdahehodkaa.kept hbq hgN); have hcd := cellF (Yticdcdahehodkaa.kept hbq hdN); go_simp; try rfl); (try simp only [Act.put, List.setIfInBounds_toArray, List.set_cons_zero, List.set_cons_succ])))
          refine q_nil ?_
          intro w4 hb4
          go_wp2
          go_ret3
          exact ⟨⟨_, rfl, fun h => by rw [← HTE.out] at h; omega, fun _ => rfl⟩, below_then (below_alloc HW.out _) hb4⟩
        by_cases hc2 : 1000000000000000 < c
        · obtain ⟨h2, h2f⟩ := HBAD.out (fun h => by have := h.2.1; omega)
          subst h2; subst h2f
          go_upto_region 10 with (first | ((with_reducible refine at_load 39 ?_); refine wpList_load_part rfl 39 _ rfl (g) (off + k * 3) rfl _ (B) _ _ 3 (hg) Try.underlying39 rfl (by kernel_rfl) (hs) (dA x c v) (he) ?_) | ((with_reducible refine at_alloc 39 ?_); refine wpList_alloc_named rfl 39 rfl (dA 0 0 0) (by kernel_rfl) ?_) | ((with_reducible refine at_store 39 ?_); refine wpList_store_new rfl 39 _ _ rfl (dA x c v) _ _ _ rfl (by simp) rfl (by rw [dA_size _ _ _]; kernel_rfl) (by rw [dA_size _ _ _]; rfl) (dA_all _ _ _) ?_))
          refine wp_region_below (by kernel_rfl) (by kernel_rfl) ?_
          repeat (first | ((with_reducible apply q_skip); (case hw => rfl); (try simp only [Act.put, List.setIfInBounds_toArray, List.set_cons_zero, List.set_cons_succ])) | ((with_reducible apply q_val); (case hw => rfl); (case hv => intro wq hbq; have hcq := cellF (Yticdcdahehodkaa.kept hbq hgN); have hcd := cellF (Yticdcdahehodkaa.kept hbq hdN); go_simp; try rfl); (try simp only [Act.put, List.setIfInBounds_toArray, List.set_cons_zero, List.set_cons_succ])))
          refine q_nil ?_
          intro w4 hb4
          go_wp2
          go_ret3
          exact ⟨⟨_, rfl, fun h => by rw [← HTE.out] at h; omega, fun _ => rfl⟩, below_then (below_alloc HW.out _) hb4⟩
        by_cases hv1 : 100000000000000000 < v
        · obtain ⟨h2, h2f⟩ := HBAD.out (fun h => by have := h.2.2; omega)
          subst h2; subst h2f
          go_upto_region 10 with (first | ((with_reducible refine at_load 39 ?_); refine wpList_load_part rfl 39 _ rfl (g) (off + k * 3) rfl _ (B) _ _ 3 (hg) Try.underlying39 rfl (by kernel_rfl) (hs) (dA x c v) (he) ?_) | ((with_reducible refine at_alloc 39 ?_); refine wpList_alloc_named rfl 39 rfl (dA 0 0 0) (by kernel_rfl) ?_) | ((with_reducible refine at_store 39 ?_); refine wpList_store_new rfl 39 _ _ rfl (dA x c v) _ _ _ rfl (by simp) rfl (by rw [dA_size _ _ _]; kernel_rfl) (by rw [dA_size _ _ _]; rfl) (dA_all _ _ _) ?_))
          refine wp_region_below (by kernel_rfl) (by kernel_rfl) ?_
          repeat (first | ((with_reducible apply q_skip); (case hw => rfl); (try simp only [Act.put, List.setIfInBounds_toArray, List.set_cons_zero, List.set_cons_succ])) | ((with_reducible apply q_val); (case hw => rfl); (case hv => intro wq hbq; have hcq := cellF (Yticdcdahehodkaa.kept hbq hgN); have hcd := cellF (Yticdcdahehodkaa.kept hbq hdN); go_simp; try rfl); (try simp only [Act.put, List.setIfInBounds_toArray, List.set_cons_zero, List.set_cons_succ])))
          refine q_nil ?_
          intro w4 hb4
          go_wp2
          go_ret3
          exact ⟨⟨_, rfl, fun h => by rw [← HTE.out] at h; omega, fun _ => rfl⟩, below_then (below_alloc HW.out _) hb4⟩
        by_cases hv2 : v < -100000000000000000
        · obtain ⟨h2, h2f⟩ := HBAD.out (fun h => by have := h.2.2; omega)
          subst h2; subst h2f
          go_upto_region 10 with (first | ((with_reducible refine at_load 39 ?_); refine wpList_load_part rfl 39 _ rfl (g) (off + k * 3) rfl _ (B) _ _ 3 (hg) Try.underlying39 rfl (by kernel_rfl) (hs) (dA x c v) (he) ?_) | ((with_reducible refine at_alloc 39 ?_); refine wpList_alloc_named rfl 39 rfl (dA 0 0 0) (by kernel_rfl) ?_) | ((with_reducible refine at_store 39 ?_); refine wpList_store_new rfl 39 _ _ rfl (dA x c v) _ _ _ rfl (by simp) rfl (by rw [dA_size _ _ _]; kernel_rfl) (by rw [dA_size _ _ _]; rfl) (dA_all _ _ _) ?_))
          refine wp_region_below (by kernel_rfl) (by kernel_rfl) ?_
          repeat (first | ((with_reducible apply q_skip); (case hw => rfl); (try simp only [Act.put, List.setIfInBounds_toArray, List.set_cons_zero, List.set_cons_succ])) | ((with_reducible apply q_val); (case hw => rfl); (case hv => intro wq hbq; have hcq := cellF (Yticdcdahehodkaa.kept hbq hgN); have hcd := cellF (Yticdcdahehodkaa.kept hbq hdN); go_simp; try rfl); (try simp only [Act.put, List.setIfInBounds_toArray, List.set_cons_zero, List.set_cons_succ])))
          refine q_nil ?_
          intro w4 hb4
          go_wp2
          go_ret3
          exact ⟨⟨_, rfl, fun h => by rw [← HTE.out] at h; omega, fun _ => rfl⟩, below_then (below_alloc HW.out _) hb4⟩
        go_upto_region 10 with (first | ((with_reducible refine at_load 39 ?_); refine wpList_load_part rfl 39 _ rfl (g) (off + k * 3) rfl _ (B) _ _ 3 (hg) Try.underlying39 rfl (by kernel_rfl) (hs) (dA x c v) (he) ?_) | ((with_reducible refine at_alloc 39 ?_); refine wpList_alloc_named rfl 39 rfl (dA 0 0 0) (by kernel_rfl) ?_) | ((with_reducible refine at_store 39 ?_); refine wpList_store_new rfl 39 _ _ rfl (dA x c v) _ _ _ rfl (by simp) rfl (by rw [dA_size _ _ _]; kernel_rfl) (by rw [dA_size _ _ _]; rfl) (dA_all _ _ _) ?_))
        refine wp_region_below (by kernel_rfl) (by kernel_rfl) ?_
        repeat (first | ((with_reducible apply q_skip); (case hw => rfl); (try simp only [Act.put, List.setIfInBounds_toArray, List.set_cons_zero, List.set_cons_succ])) | ((with_reducible apply q_val); (case hw => rfl); (case hv => intro wq hbq; have hcq := cellF (Yticdcdahehodkaa.kept hbq hgN); have hcd := cellF (Yticdcdahehodkaa.kept hbq hdN); go_simp; try rfl); (try simp only [Act.put, List.setIfInBounds_toArray, List.set_cons_zero, List.set_cons_succ])))
        refine q_nil ?_
        intro w4 hb4
        have hS4 := Yticdcdahehodkaa.kept hb4 hsN
        have hD4 := Yticdcdahehodkaa.kept hb4 hdN
        have HB4 := Lib.hid (below_then (below_alloc (o := Obj.cells (dA x c v) 39) HW.out) hb4)
        clear hgN hsN hdN hb4 hg hglt
        go_upto_region 12 with fail
        refine wp_region_tail 5 (by kernel_rfl) (by kernel_rfl) (by kernel_rfl) (by kernel_rfl) rfl rfl (by kernel_rfl) (by kernel_rfl) ?_
        simp only [List.take, List.getD, List.getElem?_cons_succ, List.getElem?_cons_zero, Option.getD]
        repeat (first | ((with_reducible apply q_skip); (case hw => rfl); (try simp only [Act.put, List.setIfInBounds_toArray, List.set_cons_zero, List.set_cons_succ])) | ((with_reducible refine at_qload 58 ?_); refine q_load_part (by rfl) 58 _ rfl (gS) (0) rfl _ (X) _ 13 (hS4) Try.underlying58 rfl (by kernel_rfl) (by rw [HXS.out]; omega) (X) (HXE.out) ?_; try simp only [Act.put, List.setIfInBounds_toArray, List.set_cons_zero, List.set_cons_succ]) | ((with_reducible refine at_qcall 27 ?_); refine q_call_below _ 27 _ (by rfl) (cO) (fun wq hbq => by go_simp) ?_; try simp only [Act.put, List.setIfInBounds_toArray, List.set_cons_zero, List.set_cons_succ]) | ((with_reducible refine at_qcall 28 ?_); refine q_call_below _ 28 _ (by rfl) (cP) (fun wq hbq => by go_simp) ?_; try simp only [Act.put, List.setIfInBounds_toArray, List.set_cons_zero, List.set_cons_succ]) | ((with_reducible apply q_val); (case hw => rfl); (case hv => intro wq hbq; have hcq := cellF (Yticdcdahehodkaa.kept hbq hD4); go_simp; try rfl); (try simp only [Act.put, List.setIfInBounds_toArray, List.set_cons_zero, List.set_cons_succ])))
        refine q_nil ?_
        intro w5 hb5
        refine op_store_over' 58 _ _ rfl gS Y rfl rfl 58 X (Yticdcdahehodkaa.kept hb5 hS4) (by rw [HYS.out]; kernel_rfl) (by rw [HYS.out]; exact HXS.out) HYA.out ?_
        intro w6 hc6 ho6 hb6
        have HB6 := Lib.hid ((below_then HB4.out hb5).trans (hb6 _ hgw))
        clear hb5 hb6 ho6
        go_wp2
        go_roundg (n - (k + 1))
        case measure => omega
        case rel => exact ⟨k + 1, by omega, rfl, by go_num, HYES.out (by refine ⟨?_, ?_, ?_⟩ <;> omega), by rw [HYY.out]; exact hc6, HB6.out⟩
      · obtain ⟨m, hmk⟩ : ∃ m, m + 1 = k := ⟨k - 1, by omega⟩
        have hkp : (0 : Int) < (k : Int) := by omega
        have hkp2 : 0 < k := by omega
        obtain ⟨g', off', B', t', fr', e1, hg', _, _, d0, _, _⟩ := (HA.out.kept HW.out).at (show m < n by omega)
        injection e1 with e1; injection e1 with e11 e12
        subst e11; subst e12
        rw [hg] at hg'
        injection hg' with hg'; injection hg' with hg' e13 e14
        subst hg'
        have hl := (HB.out m).1
        unfold dOk at HBAD HYES
        rw [if_neg hk0, show k - 1 = m by omega] at HBAD HYES
        have hmi : (m : Int) < n := by omega
        have hkm : (k : Int) - 1 = (m : Int) := by omega
        have wm : IntKind.i64.wrap (m : Int) = (m : Int) := by rw [IntKind.wrap_i64]; omega
        obtain ⟨l, hle⟩ : ∃ x, x = A m := ⟨_, rfl⟩
        rw [← hle] at HBAD HYES hl d0
        obtain ⟨x, hxe⟩ : ∃ x, x = A k := ⟨_, rfl⟩
        obtain ⟨c, hce⟩ : ∃ c, c = C k := ⟨_, rfl⟩
        obtain ⟨v, hve⟩ : ∃ v, v = V k := ⟨_, rfl⟩
        obtain ⟨X, hXe⟩ : ∃ X, X = xn V k := ⟨_, rfl⟩
        obtain ⟨Y, hYe⟩ : ∃ Y, Y = xn V (k + 1) := ⟨_, rfl⟩
        obtain ⟨Z1, hZe⟩ : ∃ Z1, Z1 = nm (oS v) (oV v) := ⟨_, rfl⟩
        have HYY := Lib.hid hYe.symm
        rw [← hxe] at HBAD HYES hx
        rw [← hxe, ← hce, ← hve] at he
        rw [← hce] at HBAD HYES hc
        rw [← hve] at HBAD HYES hv cO cP
        rw [← hZe] at cO cP
        rw [← hXe] at cP HXS HXA HXE hS
        rw [← hYe] at cP HYS HYA
        clear hxe hce hve hXe hYe hZe b0 b1 b2
        have hgN : (wr.alloc (.cells (dA x c v) 39)).heap[g]? = some (.cells B t fr) := heap_up hg
        have hsN : (wr.alloc (.cells (dA x c v) 39)).heap[gS]? = some (.cells X 58 (0, 0)) := heap_up hS
        have hdN : (wr.alloc (.cells (dA x c v) 39)).heap[wr.heap.size]? = some (.cells (dA x c v) 39 (0, 0)) := heap_alloc_new _ _
        have e0 := dA_0 x c v
        have e1 := dA_1 x c v
        have e2 := dA_2 x c v
        clear hle e13 e14 hk0 hmk
        by_cases hxl : x ≤ l
        · by_cases hx0 : x = 0
          · obtain ⟨h2, h2f⟩ := HBAD.out (fun h => by have := h.1; omega)
            subst h2; subst h2f
            have hxz : (x == 0) = true := by rw [beq_iff_eq]; exact hx0
            clear hx0
            go_upto_region 10 with (first | ((with_reducible refine at_load 39 ?_); refine wpList_load_part rfl 39 _ rfl (g) (off + k * 3) rfl _ (B) _ _ 3 (hg) Try.underlying39 rfl (by kernel_rfl) (hs) (dA x c v) (he) ?_) | ((with_reducible refine at_alloc 39 ?_); refine wpList_alloc_named rfl 39 rfl (dA 0 0 0) (by kernel_rfl) ?_) | ((with_reducible refine at_store 39 ?_); refine wpList_store_new rfl 39 _ _ rfl (dA x c v) _ _ _ rfl (by simp) rfl (by rw [dA_size _ _ _]; kernel_rfl) (by rw [dA_size _ _ _]; rfl) (dA_all _ _ _) ?_))
            refine wp_region_below (by kernel_rfl) (by kernel_rfl) ?_
            repeat (first | ((with_reducible apply q_skip); (case hw => rfl); (try simp only [Act.put, List.setIfInBounds_toArray, List.set_cons_zero, List.set_cons_succ])) | ((with_reducible apply q_val); (case hw => rfl); (case hv => intro wq hbq; have hcq := cellF (Yticdcdahehodkaa.kept hbq hgN); have hcd := cellF (Yticdcdahehodkaa.kept hbq hdN); go_simp; try rfl); (try simp only [Act.put, List.setIfInBounds_toArray, List.set_cons_zero, List.set_cons_succ])))
            refine q_nil ?_
            intro w4 hb4
            go_wp2
            go_ret3
            exact ⟨⟨_, rfl, fun h => by rw [← HTE.out] at h; omega, fun _ => rfl⟩, below_then (below_alloc HW.out _) hb4⟩
          · have hxz : (x == 0) = false := by rw [beq_eq_false_iff_ne]; exact hx0
            obtain ⟨h2, h2f⟩ := HBAD.out (fun h => by have := h.1; omega)
            subst h2; subst h2f
            go_upto_region 10 with (first | ((with_reducible refine at_load 39 ?_); refine wpList_load_part rfl 39 _ rfl (g) (off + k * 3) rfl _ (B) _ _ 3 (hg) Try.underlying39 rfl (by kernel_rfl) (hs) (dA x c v) (he) ?_) | ((with_reducible refine at_alloc 39 ?_); refine wpList_alloc_named rfl 39 rfl (dA 0 0 0) (by kernel_rfl) ?_) | ((with_reducible refine at_store 39 ?_); refine wpList_store_new rfl 39 _ _ rfl (dA x c v) _ _ _ rfl (by simp) rfl (by rw [dA_size _ _ _]; kernel_rfl) (by rw [dA_size _ _ _]; rfl) (dA_all _ _ _) ?_))
            refine wp_region_below (by kernel_rfl) (by kernel_rfl) ?_
            repeat (first | ((with_reducible apply q_skip); (case hw => rfl); (try simp only [Act.put, List.setIfInBounds_toArray, List.set_cons_zero, List.set_cons_succ])) | ((with_reducible apply q_val); (case hw => rfl); (case hv => intro wq hbq; have hcq := cellF (Yticdcdahehodkaa.kept hbq hgN); have hcd := cellF (Yticdcdahehodkaa.kept hbq hdN); go_simp; try rfl); (try simp only [Act.put, List.setIfInBounds_toArray, List.set_cons_zero, List.set_cons_succ])))
            refine q_nil ?_
            intro w4 hb4
            go_wp2
            go_ret3
            exact ⟨⟨_, rfl, fun h => by rw [← HTE.out] at h; omega, fun _ => rfl⟩, below_then (below_alloc HW.out _) hb4⟩
        · by_cases hx0 : x = 0
          · obtain ⟨h2, h2f⟩ := HBAD.out (fun h => by have := h.1; have := h.2.1; omega)
            subst h2; subst h2f
            have hxz : (x == 0) = true := by rw [beq_iff_eq]; exact hx0
            clear hx0
            go_upto_region 10 with (first | ((with_reducible refine at_load 39 ?_); refine wpList_load_part rfl 39 _ rfl (g) (off + k * 3) rfl _ (B) _ _ 3 (hg) Try.underlying39 rfl (by kernel_rfl) (hs) (dA x c v) (he) ?_) | ((with_reducible refine at_alloc 39 ?_); refine wpList_alloc_named rfl 39 rfl (dA 0 0 0) (by kernel_rfl) ?_) | ((with_reducible refine at_store 39 ?_); refine wpList_store_new rfl 39 _ _ rfl (dA x c v) _ _ _ rfl (by simp) rfl (by rw [dA_size _ _ _]; kernel_rfl) (by rw [dA_size _ _ _]; rfl) (dA_all _ _ _) ?_))
            refine wp_region_below (by kernel_rfl) (by kernel_rfl) ?_
            repeat (first | ((with_reducible apply q_skip); (case hw => rfl); (try simp only [Act.put, List.setIfInBounds_toArray, List.set_cons_zero, List.set_cons_succ])) | ((with_reducible apply q_val); (case hw => rfl); (case hv => intro wq hbq; have hcq := cellF (Yticdcdahehodkaa.kept hbq hgN); have hcd := cellF (Yticdcdahehodkaa.kept hbq hdN); go_simp; try rfl); (try simp only [Act.put, List.setIfInBounds_toArray, List.set_cons_zero, List.set_cons_succ])))
            refine q_nil ?_
            intro w4 hb4
            go_wp2
            go_ret3
            exact ⟨⟨_, rfl, fun h => by rw [← HTE.out] at h; omega, fun _ => rfl⟩, below_then (below_alloc HW.out _) hb4⟩
          have hxz : (x == 0) = false := by rw [beq_eq_false_iff_ne]; exact hx0
          by_cases hc1 : c < 0
          · obtain ⟨h2, h2f⟩ := HBAD.out (fun h => by have := h.2.1; omega)
            subst h2; subst h2f
            go_upto_region 10 with (first | ((with_reducible refine at_load 39 ?_); refine wpList_load_part rfl 39 _ rfl (g) (off + k * 3) rfl _ (B) _ _ 3 (hg) Try.underlying39 rfl (by kernel_rfl) (hs) (dA x c v) (he) ?_) | ((with_reducible refine at_alloc 39 ?_); refine wpList_alloc_named rfl 39 rfl (dA 0 0 0) (by kernel_rfl) ?_) | ((with_reducible refine at_store 39 ?_); refine wpList_store_new rfl 39 _ _ rfl (dA x c v) _ _ _ rfl (by simp) rfl (by rw [dA_size _ _ _]; kernel_rfl) (by rw [dA_size _ _ _]; rfl) (dA_all _ _ _) ?_))
            refine wp_region_below (by kernel_rfl) (by kernel_rfl) ?_
            repeat (first | ((with_reducible apply q_skip); (case hw => rfl); (try simp only [Act.put, List.setIfInBounds_toArray, List.set_cons_zero, List.set_cons_succ])) | ((with_reducible apply q_val); (case hw => rfl); (case hv => intro wq hbq; have hcq := cellF (Yticdcdahehodkaa.kept hbq hgN); have hcd := cellF (Yticdcdahehodkaa.kept hbq hdN); go_simp; try rfl); (try simp only [Act.put, List.setIfInBounds_toArray, List.set_cons_zero, List.set_cons_succ])))
            refine q_nil ?_
            intro w4 hb4
            go_wp2
            go_ret3
            exact ⟨⟨_, rfl, fun h => by rw [← HTE.out] at h; omega, fun _ => rfl⟩, below_then (below_alloc HW.out _) hb4⟩
          by_cases hc2 : 1000000000000000 < c
          · obtain ⟨h2, h2f⟩ := HBAD.out (fun h => by have := h.2.1; omega)
            subst h2; subst h2f
            go_upto_region 10 with (first | ((with_reducible refine at_load 39 ?_); refine wpList_load_part rfl 39 _ rfl (g) (off + k * 3) rfl _ (B) _ _ 3 (hg) Try.underlying39 rfl (by kernel_rfl) (hs) (dA x c v) (he) ?_) | ((with_reducible refine at_alloc 39 ?_); refine wpList_alloc_named rfl 39 rfl (dA 0 0 0) (by kernel_rfl) ?_) | ((with_reducible refine at_store 39 ?_); refine wpList_store_new rfl 39 _ _ rfl (dA x c v) _ _ _ rfl (by simp) rfl (by rw [dA_size _ _ _]; kernel_rfl) (by rw [dA_size _ _ _]; rfl) (dA_all _ _ _) ?_))
            refine wp_region_below (by kernel_rfl) (by kernel_rfl) ?_
            repeat (first | ((with_reducible apply q_skip); (case hw => rfl); (try simp only [Act.put, List.setIfInBounds_toArray, List.set_cons_zero, List.set_cons_succ])) | ((with_reducible apply q_val); (case hw => rfl); (case hv => intro wq hbq; have hcq := cellF (Yticdcdahehodkaa.kept hbq hgN); have hcd := cellF (Yticdcdahehodkaa.kept hbq hdN); go_simp; try rfl); (try simp only [Act.put, List.setIfInBounds_toArray, List.set_cons_zero, List.set_cons_succ])))
            refine q_nil ?_
            intro w4 hb4
            go_wp2
            go_ret3
            exact ⟨⟨_, rfl, fun h => by rw [← HTE.out] at h; omega, fun _ => rfl⟩, below_then (below_alloc HW.out _) hb4⟩
          by_cases hv1 : 100000000000000000 < v
          · obtain ⟨h2, h2f⟩ := HBAD.out (fun h => by have := h.2.2; omega)
            subst h2; subst h2f
            go_upto_region 10 with (first | ((with_reducible refine at_load 39 ?_); refine wpList_load_part rfl 39 _ rfl (g) (off + k * 3) rfl _ (B) _ _ 3 (hg) Try.underlying39 rfl (by kernel_rfl) (hs) (dA x c v) (he) ?_) | ((with_reducible refine at_alloc 39 ?_); refine wpList_alloc_named rfl 39 rfl (dA 0 0 0) (by kernel_rfl) ?_) | ((with_reducible refine at_store 39 ?_); refine wpList_store_new rfl 39 _ _ rfl (dA x c v) _ _ _ rfl (by simp) rfl (by rw [dA_size _ _ _]; kernel_rfl) (by rw [dA_size _ _ _]; rfl) (dA_all _ _ _) ?_))
            refine wp_region_below (by kernel_rfl) (by kernel_rfl) ?_
            repeat (first | ((with_reducible apply q_skip); (case hw => rfl); (try simp only [Act.put, List.setIfInBounds_toArray, List.set_cons_zero, List.set_cons_succ])) | ((with_reducible apply q_val); (case hw => rfl); (case hv => intro wq hbq; have hcq := cellF (Yticdcdahehodkaa.kept hbq hgN); have hcd := cellF (Yticdcdahehodkaa.kept hbq hdN); go_simp; try rfl); (try simp only [Act.put, List.setIfInBounds_toArray, List.set_cons_zero, List.set_cons_succ])))
            refine q_nil ?_
            intro w4 hb4
            go_wp2
            go_ret3
            exact ⟨⟨_, rfl, fun h => by rw [← HTE.out] at h; omega, fun _ => rfl⟩, below_then (below_alloc HW.out _) hb4⟩
          by_cases hv2 : v < -100000000000000000
          · obtain ⟨h2, h2f⟩ := HBAD.out (fun h => by have := h.2.2; omega)
            subst h2; subst h2f
            go_upto_region 10 with (first | ((with_reducible refine at_load 39 ?_); refine wpList_load_part rfl 39 _ rfl (g) (off + k * 3) rfl _ (B) _ _ 3 (hg) Try.underlying39 rfl (by kernel_rfl) (hs) (dA x c v) (he) ?_) | ((with_reducible refine at_alloc 39 ?_); refine wpList_alloc_named rfl 39 rfl (dA 0 0 0) (by kernel_rfl) ?_) | ((with_reducible refine at_store 39 ?_); refine wpList_store_new rfl 39 _ _ rfl (dA x c v) _ _ _ rfl (by simp) rfl (by rw [dA_size _ _ _]; kernel_rfl) (by rw [dA_size _ _ _]; rfl) (dA_all _ _ _) ?_))
            refine wp_region_below (by kernel_rfl) (by kernel_rfl) ?_
            repeat (first | ((with_reducible apply q_skip); (case hw => rfl); (try simp only [Act.put, List.setIfInBounds_toArray, List.set_cons_zero, List.set_cons_succ])) | ((with_reducible apply q_val); (case hw => rfl); (case hv => intro wq hbq; have hcq := cellF (Yticdcdahehodkaa.kept hbq hgN); have hcd := cellF (Yticdcdahehodkaa.kept hbq hdN); go_simp; try rfl); (try simp only [Act.put, List.setIfInBounds_toArray, List.set_cons_zero, List.set_cons_succ])))
            refine q_nil ?_
            intro w4 hb4
            go_wp2
            go_ret3
            exact ⟨⟨_, rfl, fun h => by rw [← HTE.out] at h; omega, fun _ => rfl⟩, below_then (below_alloc HW.out _) hb4⟩
          go_upto_region 10 with (first | ((with_reducible refine at_load 39 ?_); refine wpList_load_part rfl 39 _ rfl (g) (off + k * 3) rfl _ (B) _ _ 3 (hg) Try.underlying39 rfl (by kernel_rfl) (hs) (dA x c v) (he) ?_) | ((with_reducible refine at_alloc 39 ?_); refine wpList_alloc_named rfl 39 rfl (dA 0 0 0) (by kernel_rfl) ?_) | ((with_reducible refine at_store 39 ?_); refine wpList_store_new rfl 39 _ _ rfl (dA x c v) _ _ _ rfl (by simp) rfl (by rw [dA_size _ _ _]; kernel_rfl) (by rw [dA_size _ _ _]; rfl) (dA_all _ _ _) ?_))
          refine wp_region_below (by kernel_rfl) (by kernel_rfl) ?_
          repeat (first | ((with_reducible apply q_skip); (case hw => rfl); (try simp only [Act.put, List.setIfInBounds_toArray, List.set_cons_zero, List.set_cons_succ])) | ((with_reducible apply q_val); (case hw => rfl); (case hv => intro wq hbq; have hcq := cellF (Yticdcdahehodkaa.kept hbq hgN); have hcd := cellF (Yticdcdahehodkaa.kept hbq hdN); go_simp; try rfl); (try simp only [Act.put, List.setIfInBounds_toArray, List.set_cons_zero, List.set_cons_succ])))
          refine q_nil ?_
          intro w4 hb4
          have hS4 := Yticdcdahehodkaa.kept hb4 hsN
          have hD4 := Yticdcdahehodkaa.kept hb4 hdN
          have HB4 := Lib.hid (below_then (below_alloc (o := Obj.cells (dA x c v) 39) HW.out) hb4)
          clear hgN hsN hdN hb4 hg hglt
          go_upto_region 12 with fail
          refine wp_region_tail 5 (by kernel_rfl) (by kernel_rfl) (by kernel_rfl) (by kernel_rfl) rfl rfl (by kernel_rfl) (by kernel_rfl) ?_
          simp only [List.take, List.getD, List.getElem?_cons_succ, List.getElem?_cons_zero, Option.getD]
          repeat (first | ((with_reducible apply q_skip); (case hw => rfl); (try simp only [Act.put, List.setIfInBounds_toArray, List.set_cons_zero, List.set_cons_succ])) | ((with_reducible refine at_qload 58 ?_); refine q_load_part (by rfl) 58 _ rfl (gS) (0) rfl _ (X) _ 13 (hS4) Try.underlying58 rfl (by kernel_rfl) (by rw [HXS.out]; omega) (X) (HXE.out) ?_; try simp only [Act.put, List.setIfInBounds_toArray, List.set_cons_zero, List.set_cons_succ]) | ((with_reducible refine at_qcall 27 ?_); refine q_call_below _ 27 _ (by rfl) (cO) (fun wq hbq => by go_simp) ?_; try simp only [Act.put, List.setIfInBounds_toArray, List.set_cons_zero, List.set_cons_succ]) | ((with_reducible refine at_qcall 28 ?_); refine q_call_below _ 28 _ (by rfl) (cP) (fun wq hbq => by go_simp) ?_; try simp only [Act.put, List.setIfInBounds_toArray, List.set_cons_zero, List.set_cons_succ]) | ((with_reducible apply q_val); (case hw => rfl); (case hv => intro wq hbq; have hcq := cellF (Yticdcdahehodkaa.kept hbq hD4); go_simp; try rfl); (try simp only [Act.put, List.setIfInBounds_toArray, List.set_cons_zero, List.set_cons_succ])))
          refine q_nil ?_
          intro w5 hb5
          refine op_store_over' 58 _ _ rfl gS Y rfl rfl 58 X (Yticdcdahehodkaa.kept hb5 hS4) (by rw [HYS.out]; kernel_rfl) (by rw [HYS.out]; exact HXS.out) HYA.out ?_
          intro w6 hc6 ho6 hb6
          have HB6 := Lib.hid ((below_then HB4.out hb5).trans (hb6 _ hgw))
          clear hb5 hb6 ho6
          go_wp2
          go_roundg (n - (k + 1))
          case measure => omega
          case rel => exact ⟨k + 1, by omega, rfl, by go_num, HYES.out (by refine ⟨?_, ?_, ?_⟩ <;> omega), by rw [HYY.out]; exact hc6, HB6.out⟩
    · obtain rfl : k = n := by omega
      have cz := HCZ.out
      obtain ⟨X, hXe⟩ : ∃ X, X = xn V k := ⟨_, rfl⟩
      rw [← hXe] at HXS HXA HXE hS cz
      have hm := HM.out
      clear hXe
      by_cases hs0 : sumZ V k = 0
      · rw [decide_eq_true hs0] at cz
        obtain ⟨h2, h2f⟩ := HTE2.out hm hs0
        have h7 : te = 0 := HTE.out.trans h2
        subst h7
        have HTF2 := Lib.hid (HTF.out.trans h2f)
        have HS0 := Lib.hid hs0
        clear h2 h2f hm hs0 HTE0 HTE1 HTE2
        go_wp2_with (first | ((with_reducible refine at_load 58 ?_); refine wpList_load_part rfl 58 _ rfl (gS) (0) rfl _ (X) _ _ 13 (hS) Try.underlying58 rfl (by kernel_rfl) (by rw [HXS.out]; omega) (X) (HXE.out) ?_) | (go_at_call 29; (with_reducible refine (cz _).mono ?_); rintro e w3 ⟨rfl, hb3⟩))
        have HB3 := Lib.hid (below_then HW.out hb3)
        clear hb3 hS cz
        go_loopg [0, 10, 11, 12, 13] k (fun gh v0 v10 v11 v12 v13 wx => ∃ j : Nat, j ≤ k ∧ gh = k - j ∧ v13 = .int .i64 j ∧ v0 = .int .i64 (fund - min fund (miss C V j)) ∧ v10 = .int .i64 (miss C V j - min fund (miss C V j)) ∧
          O2 w3 wx 2 1 v12 j (zl (mxV V) j) 43 4 v11 j (flat (fun i => sA (A i) (max (C i + V i) 0) (decide (C i + V i < 0)) 0) j))
        case atStart => exact ⟨0, by omega, by omega, rfl, by rw [show miss C V 0 = 0 from rfl]; have := HF.out; rw [show fund - min fund 0 = fund by omega], by rw [show miss C V 0 = 0 from rfl]; have := HF.out; rw [show (0 : Int) - min fund 0 = 0 by omega], ⟨Below.refl _ _, World.ownsRow_nil _ _ _ _, World.ownsRow_nil _ _ _ _⟩⟩
        case round =>
          obtain ⟨j, hj, rfl, rfl, rfl, rfl, hO⟩ := hrel
          have HO := Lib.hid hO
          have hM := (miss_bd HM.out j hj)
          have hff := HF.out
          clear hO
          obtain ⟨M, hMe⟩ : ∃ M, M = miss C V j := ⟨_, rfl⟩
          rw [← hMe] at hM
          rw [← hMe]
          obtain ⟨f, hfe⟩ : ∃ f, f = fund - min fund M := ⟨_, rfl⟩
          obtain ⟨lf, hle⟩ : ∃ lf, lf = M - min fund M := ⟨_, rfl⟩
          rw [← hfe, ← hle]
          by_cases hlt : j < k
          · skip
            obtain ⟨g, off, B, t, fr, rfl, hg, hs, he, b0, b1, b2⟩ := (HA.out.kept (below_then HB3.out HO.out.be)).at hlt
            have hji : (j : Int) < k := by omega
            obtain ⟨_, hcd, hvd⟩ := dmay_at HM.out hlt
            obtain ⟨x, hxe⟩ : ∃ x, x = A j := ⟨_, rfl⟩
            obtain ⟨c, hce⟩ : ∃ c, c = C j := ⟨_, rfl⟩
            obtain ⟨v, hve⟩ : ∃ v, v = V j := ⟨_, rfl⟩
            rw [← hxe] at b0
            rw [← hce] at hcd b1
            rw [← hve] at hvd b2
            have HFL := Lib.hid (fun (y : Int) (d : Bool) (h1 : y = max (c + v) 0) (h2 : d = decide (c + v < 0)) => show flat (fun i => sA (A i) (max (C i + V i) 0) (decide (C i + V i < 0)) 0) j ++ (sA x y d 0).toList = flat (fun i => sA (A i) (max (C i + V i) 0) (decide (C i + V i < 0)) 0) (j + 1) from by
              rw [h1, h2, hxe, hce, hve]; rfl)
            have HZL := Lib.hid (fun (y : Int) (h : y = max v 0) => show zl (mxV V) j ++ zl (fun _ => y) 1 = zl (mxV V) (j + 1) from by
              rw [h, hve]; exact zl_snoc (mxV V) j)
            have HMS := Lib.hid (show miss C V (j + 1) = M + max 0 (-(c + v)) from by rw [miss_succ, ← hMe, hce, hve])
            have HMF := Lib.hid (And.intro hMe (And.intro hfe hle))
            have wcv : IntKind.i64.wrap (c + v) = c + v := by rw [IntKind.wrap_i64]; omega
            have hgl := (Array.getElem?_eq_some_iff.1 hg).1
            have hfb : 0 ≤ f ∧ f ≤ 1000000000000000 := by omega
            have hlb : 0 ≤ lf ∧ lf ≤ M := by omega
            clear hxe hce hve he hMe hfe hle
            go_upto_region 21 with fail
            refine wp_region_R (S := fun wt => wt.heap[g]? = some (.cells B t fr)) (by kernel_rfl) hg ?_
            obtain ⟨wq, hwq⟩ : ∃ wq, wq = wr.drew := ⟨_, rfl⟩
            have HBQ : Below wr.heap.size wr wq := by rw [hwq]; exact Below.drew (Below.refl _ _)
            rw [← hwq]
            clear hwq
            (refine wpAnyR_take (i := 0) (v := ?_) rfl (by kernel_rfl) (by kernel_rfl) (by kernel_rfl) (fun _ _ _ h => h) (give_val (by rfl) ?rt_0) ?_); (case rt_0 => (intro wt hS; go_simp; try with_reducible rfl)); (try simp only [Act.put, List.getElem_toArray, List.getElem_cons_zero, List.getElem_cons_succ, List.setIfInBounds_toArray, List.set_cons_zero, List.set_cons_succ]); (refine wpAnyR_take (i := 1) (v := ?_) rfl (by kernel_rfl) (by kernel_rfl) (by kernel_rfl) (fun _ _ _ h => h) (give_val (by rfl) ?rt_1) ?_); (case rt_1 => (intro wt hS; go_simp; try with_reducible rfl)); (try simp only [Act.put, List.getElem_toArray, List.getElem_cons_zero, List.getElem_cons_succ, List.setIfInBounds_toArray, List.set_cons_zero, List.set_cons_succ]); (refine wpAnyR_take (i := 2) (v := ?_) rfl (by kernel_rfl) (by kernel_rfl) (by kernel_rfl) (fun _ _ _ h => h) (give_val (by rfl) ?rt_2) ?_); (case rt_2 => (intro wt hS; go_simp; try with_reducible rfl)); (try simp only [Act.put, List.getElem_toArray, List.getElem_cons_zero, List.getElem_cons_succ, List.setIfInBounds_toArray, List.set_cons_zero, List.set_cons_succ]); (refine wpAnyR_take (i := 3) (v := ?_) rfl (by kernel_rfl) (by kernel_rfl) (by kernel_rfl) (fun _ _ _ h => h) (give_val (by rfl) ?rt_3) ?_); (case rt_3 => (intro wt hS; go_simp; try with_reducible rfl)); (try simp only [Act.put, List.getElem_toArray, List.getElem_cons_zero, List.getElem_cons_succ, List.setIfInBounds_toArray, List.set_cons_zero, List.set_cons_succ])
            (refine wpAnyR_take (i := 4) (v := .int .u32 x) rfl (by kernel_rfl) (by kernel_rfl) (by kernel_rfl) (fun _ _ _ h => h) (give_val (by rfl) ?rt_4) ?_); (case rt_4 => (intro wt hS; (have hcq := cellF hS); go_simp; try with_reducible rfl)); (try simp only [Act.put, List.getElem_toArray, List.getElem_cons_zero, List.getElem_cons_succ, List.setIfInBounds_toArray, List.set_cons_zero, List.set_cons_succ])
            (refine wpAnyR_take (i := 5) (v := ?_) rfl (by kernel_rfl) (by kernel_rfl) (by kernel_rfl) (fun _ _ _ h => h) (give_val (by rfl) ?rt_5) ?_); (case rt_5 => (intro wt hS; go_simp; try with_reducible rfl)); (try simp only [Act.put, List.getElem_toArray, List.getElem_cons_zero, List.getElem_cons_succ, List.setIfInBounds_toArray, List.set_cons_zero, List.set_cons_succ]); (refine wpAnyR_take (i := 6) (v := ?_) rfl (by kernel_rfl) (by kernel_rfl) (by kernel_rfl) (fun _ _ _ h => h) (give_val (by rfl) ?rt_6) ?_); (case rt_6 => (intro wt hS; go_simp; try with_reducible rfl)); (try simp only [Act.put, List.getElem_toArray, List.getElem_cons_zero, List.getElem_cons_succ, List.setIfInBounds_toArray, List.set_cons_zero, List.set_cons_succ]); (refine wpAnyR_take (i := 7) (v := ?_) rfl (by kernel_rfl) (by kernel_rfl) (by kernel_rfl) (fun _ _ _ h => h) (give_val (by rfl) ?rt_7) ?_); (case rt_7 => (intro wt hS; go_simp; try with_reducible rfl)); (try simp only [Act.put, List.getElem_toArray, List.getElem_cons_zero, List.getElem_cons_succ, List.setIfInBounds_toArray, List.set_cons_zero, List.set_cons_succ]); (refine wpAnyR_take (i := 8) (v := ?_) rfl (by kernel_rfl) (by kernel_rfl) (by kernel_rfl) (fun _ _ _ h => h) (give_val (by rfl) ?rt_8) ?_); (case rt_8 => (intro wt hS; go_simp; try with_reducible rfl)); (try simp only [Act.put, List.getElem_toArray, List.getElem_cons_zero, List.getElem_cons_succ, List.setIfInBounds_toArray, List.set_cons_zero, List.set_cons_succ])
            (refine wpAnyR_take (i := 9) (v := .int .i64 c) rfl (by kernel_rfl) (by kernel_rfl) (by kernel_rfl) (fun _ _ _ h => h) (give_val (by rfl) ?rt_9) ?_); (case rt_9 => (intro wt hS; (have hcq := cellF hS); go_simp; try with_reducible rfl)); (try simp only [Act.put, List.getElem_toArray, List.getElem_cons_zero, List.getElem_cons_succ, List.setIfInBounds_toArray, List.set_cons_zero, List.set_cons_succ])
            (refine wpAnyR_take (i := 10) (v := ?_) rfl (by kernel_rfl) (by kernel_rfl) (by kernel_rfl) (fun _ _ _ h => h) (give_val (by rfl) ?rt_10) ?_); (case rt_10 => (intro wt hS; go_simp; try with_reducible rfl)); (try simp only [Act.put, List.getElem_toArray, List.getElem_cons_zero, List.getElem_cons_succ, List.setIfInBounds_toArray, List.set_cons_zero, List.set_cons_succ]); (refine wpAnyR_take (i := 11) (v := ?_) rfl (by kernel_rfl) (by kernel_rfl) (by kernel_rfl) (fun _ _ _ h => h) (give_val (by rfl) ?rt_11) ?_); (case rt_11 => (intro wt hS; go_simp; try with_reducible rfl)); (try simp only [Act.put, List.getElem_toArray, List.getElem_cons_zero, List.getElem_cons_succ, List.setIfInBounds_toArray, List.set_cons_zero, List.set_cons_succ]); (refine wpAnyR_take (i := 12) (v := ?_) rfl (by kernel_rfl) (by kernel_rfl) (by kernel_rfl) (fun _ _ _ h => h) (give_val (by rfl) ?rt_12) ?_); (case rt_12 => (intro wt hS; go_simp; try with_reducible rfl)); (try simp only [Act.put, List.getElem_toArray, List.getElem_cons_zero, List.getElem_cons_succ, List.setIfInBounds_toArray, List.set_cons_zero, List.set_cons_succ]); (refine wpAnyR_take (i := 13) (v := ?_) rfl (by kernel_rfl) (by kernel_rfl) (by kernel_rfl) (fun _ _ _ h => h) (give_val (by rfl) ?rt_13) ?_); (case rt_13 => (intro wt hS; go_simp; try with_reducible rfl)); (try simp only [Act.put, List.getElem_toArray, List.getElem_cons_zero, List.getElem_cons_succ, List.setIfInBounds_toArray, List.set_cons_zero, List.set_cons_succ])
            (refine wpAnyR_take (i := 14) (v := .int .i64 v) rfl (by kernel_rfl) (by kernel_rfl) (by kernel_rfl) (fun _ _ _ h => h) (give_val (by rfl) ?rt_14) ?_); (case rt_14 => (intro wt hS; (have hcq := cellF hS); go_simp; try with_reducible rfl)); (try simp only [Act.put, List.getElem_toArray, List.getElem_cons_zero, List.getElem_cons_succ, List.setIfInBounds_toArray, List.set_cons_zero, List.set_cons_succ])
            (refine wpAnyR_take (i := 15) (v := .int .i64 (c + v)) rfl (by kernel_rfl) (by kernel_rfl) (by kernel_rfl) (fun _ _ _ h => h) (give_val (by rfl) ?rt_15) ?_); (case rt_15 => (intro wt hS; go_simp; try with_reducible rfl)); (try simp only [Act.put, List.getElem_toArray, List.getElem_cons_zero, List.getElem_cons_succ, List.setIfInBounds_toArray, List.set_cons_zero, List.set_cons_succ])
            (refine wpAnyR_take (i := 16) (v := .agg (sA x (c + v) false 0)) rfl (by kernel_rfl) (by kernel_rfl) (by kernel_rfl) (fun _ _ _ h => h) (give_val (by rfl) ?rt_16) ?_); (case rt_16 => (intro wt hS; exact exec_build 43 _ rfl (sA x (c + v) false 0) (by kernel_rfl))); (try simp only [Act.put, List.getElem_toArray, List.getElem_cons_zero, List.getElem_cons_succ, List.setIfInBounds_toArray, List.set_cons_zero, List.set_cons_succ])
            (refine wpAnyR_ready (rs := [17]) (by kernel_rfl) (by decide) (fun wa hba HS => ?_)); refine (AllR.cons rfl (fun K' hK => ?_) AllR.nil)
            rw [if_pos (by rfl)]
            refine op_alloc_named 43 rfl (sA 0 0 false 0) (by kernel_rfl) (hK.out _ _ (heap_up HS) ?_)
            clear hK K'
            (try simp only [Act.put, List.getElem_toArray, List.getElem_cons_zero, List.getElem_cons_succ, List.setIfInBounds_toArray, List.set_cons_zero, List.set_cons_succ])
            have hga := below_then HBQ hba
            have hgx0 : wr.heap.size ≤ wa.heap.size := hga.size
            (refine wpAnyR_ready (rs := [18]) (by kernel_rfl) (by decide) (fun wb hbb HS => ?_)); refine (AllR.cons rfl (fun K' hK => ?_) AllR.nil)
            rw [if_pos (by rfl)]
            refine op_store_over' 43 _ _ rfl wa.heap.size (sA x (c + v) false 0) rfl rfl _ (sA 0 0 false 0) (Yticdcdahehodkaa.kept hbb (heap_alloc_new wa _)) (by kernel_rfl) rfl (sA_all _ _ _ _) (fun w5 hc5 ho5 hb5 => hK.out _ _ ((ho5 g (by omega)).trans HS) ?_)
            clear hK K'
            (try simp only [Act.put, List.getElem_toArray, List.getElem_cons_zero, List.getElem_cons_succ, List.setIfInBounds_toArray, List.set_cons_zero, List.set_cons_succ])
            refine wpAnyR_done (by kernel_rfl) (fun w6 hb6 HS => ?_) _
            obtain ⟨gx, hgx⟩ : ∃ gx, gx = wa.heap.size := ⟨_, rfl⟩
            have hx6 : w6.heap[gx]? = some (.cells (sA x (c + v) false 0) 43 (0, 0)) := by rw [hgx]; exact Yticdcdahehodkaa.kept hb6 hc5
            have HW6 := Lib.hid (below_then ((below_then (below_alloc hga _) hbb).trans (hb5 _ hgx0)) hb6)
            have hgxr : wr.heap.size ≤ gx := by omega
            have hgne : g ≠ gx := by omega
            have hg6 := HS
            rw [← hgx]
            clear hgx hb6 hc5 ho5 hb5 hbb hga hgx0 hba HBQ hg HS
            have cx := (cells_of hx6).1
            have fx := (cells_of hx6).2.1
            have cg := cellF hg6
            have s1 : (sA x (c + v) false 0)[1]? = some (.int .i64 (c + v)) := rfl
            have s2 : (sA x (c + v) false 0)[2]? = some (.bool false) := rfl
            by_cases hneg : c + v < 0
            · have wne : IntKind.i64.wrap (-(c + v)) = -(c + v) := by rw [IntKind.wrap_i64]; omega
              have hx7 : ((w6.setCell ⟨gx, 1, none⟩ (.int .i64 0)).setCell ⟨gx, 2, none⟩ (.bool true)).heap[gx]? = some (.cells (sA x 0 true 0) 43 (0, 0)) := heap_set (heap_set hx6)
              have hg7 : ((w6.setCell ⟨gx, 1, none⟩ (.int .i64 0)).setCell ⟨gx, 2, none⟩ (.bool true)).heap[g]? = some (.cells B t fr) := heap_set_other (heap_set_other hg6 hgne) hgne
              have HW7 := Lib.hid (below_set (i := 2) (v := .bool true) (below_set (i := 1) (v := .int .i64 0) HW6.out hgxr) hgxr)
              obtain ⟨w7, hw7⟩ : ∃ w7, w7 = (w6.setCell ⟨gx, 1, none⟩ (.int .i64 0)).setCell ⟨gx, 2, none⟩ (.bool true) := ⟨_, rfl⟩
              rw [← hw7] at hx7 hg7 HW7
              have HW7E := Lib.hid hw7
              have hvn : v < 0 := by omega
              obtain ⟨wv, hwv⟩ : ∃ wv : Int, wv = 0 := ⟨0, rfl⟩
              have HFLX := Lib.hid (HFL.out 0 true (by omega) (by rw [decide_eq_true hneg]))
              have HZLX := Lib.hid (HZL.out 0 (by omega))
              by_cases hnd : f < -(c + v)
              · have wl1 : IntKind.i64.wrap (lf + -(c + v)) = lf + -(c + v) := by rw [IntKind.wrap_i64]; omega
                have wl2 : IntKind.i64.wrap (lf + -(c + v) - f) = lf + -(c + v) - f := by rw [IntKind.wrap_i64]; omega
                clear hw7
                go_upto_region 30 with fail
                rw [← HW7E.out]
                have hx6 := hx7
                have hg6 := hg7
                have HW6 := HW7
                clear hx7 hg7 HW7 cx fx cg s1 s2 HW7E
                have cg := cellF hg6
                obtain ⟨Xf, hXf⟩ : ∃ Xf, Xf = sA x 0 true 0 := ⟨_, rfl⟩
                have HO6 := Lib.hid (HO.out.after HW6.out)
                rw [← hXf] at hx6
                have HXf := Lib.hid hXf
                have hXs : Xf.size = 4 := by rw [hXf]; exact sA_size _ _ _ _
                have hXa : Xf.all (·.oneCell') = true := by rw [hXf]; exact sA_all _ _ _ _
                have HXs := Lib.hid hXs
                have HXa := Lib.hid hXa
                have HXe := Lib.hid (extract_all hXs)
                clear hXf hXs hXa
                go_wp2_with (first
                  | ((with_reducible refine at_append 48 ?_); refine wpList_append_ints rfl _ _ rfl w3.heap.size u12 j _ rfl (HO6.out.p.alloc _) (some ⟨w7.heap.size, 0, none⟩) 1 1 (fun _ => 0) rfl (fun i hi => ⟨w7.heap.size, 0, #[.int .i64 0], _, _, rfl, heap_alloc_new _ _, by obtain rfl : i = 0 := (by omega); rfl⟩) (fun h => by cases h) (by omega) (by have := HO6.out.be.size; simp; omega) ?_; intro v8 w8 ho8 hg8; (have hap := HO6.out.app1 (by decide) ho8 hg8); (have HO8 := Lib.hid hap.1); (have hx8 := hap.2 _ _ _ (by decide) hx6); clear hap ho8 hg8) | ((with_reducible refine at_load 43 ?_); refine wpList_load_part rfl 43 _ rfl (gx) (0) rfl _ (Xf) _ _ 4 (hx8) Try.underlying43 rfl (by kernel_rfl) (by rw [HXs.out]; omega) (Xf) (HXe.out) ?_) | ((with_reducible refine at_slice1 35 ?_); obtain ⟨ip, zp, ip1, ip2, ip3, ip4, ip5⟩ := info_set; refine wpList_slice1c rfl 35 43 _ rfl Xf 4 rfl HXs.out ip zp Try.underlying35 ip1 ip2 ip3 ip5 (by omega) (by omega) ?_; clear ip1 ip2 ip3 ip4 ip5) | ((with_reducible refine at_append 35 ?_); refine wpList_append_row1 rfl _ _ rfl Try.underlying35 info_set (by omega) HXs.out HXa.out w3.heap.size u11 j _ rfl HO8.out.r rfl (by omega) HO8.out.be.size ?_; intro v9 w9 ho9 hg9 hq9; (have HLAST := Lib.hid (HO8.out.app2 (by decide) (by rw [HXf.out] at ho9; exact ho9) hg9)); clear ho9 hg9 hq9))
                go_roundg (k - (j + 1))
                case measure => omega
                case rel =>
                  obtain ⟨e1, e2, e3⟩ := HMF.out
                  exact ⟨j + 1, by omega, rfl, by go_num, by rw [HMS.out]; congr 1; omega, by rw [HMS.out]; congr 1; omega, by
                    rw [← HFLX.out, ← HZLX.out]; exact HLAST.out⟩
              · have wl1 : IntKind.i64.wrap (f - -(c + v)) = f - -(c + v) := by rw [IntKind.wrap_i64]; omega
                clear hw7
                go_upto_region 30 with fail
                rw [← HW7E.out]
                have hx6 := hx7
                have hg6 := hg7
                have HW6 := HW7
                clear hx7 hg7 HW7 cx fx cg s1 s2 HW7E
                have cg := cellF hg6
                obtain ⟨Xf, hXf⟩ : ∃ Xf, Xf = sA x 0 true 0 := ⟨_, rfl⟩
                have HO6 := Lib.hid (HO.out.after HW6.out)
                rw [← hXf] at hx6
                have HXf := Lib.hid hXf
                have hXs : Xf.size = 4 := by rw [hXf]; exact sA_size _ _ _ _
                have hXa : Xf.all (·.oneCell') = true := by rw [hXf]; exact sA_all _ _ _ _
                have HXs := Lib.hid hXs
                have HXa := Lib.hid hXa
                have HXe := Lib.hid (extract_all hXs)
                clear hXf hXs hXa
                go_wp2_with (first
                  | ((with_reducible refine at_append 48 ?_); refine wpList_append_ints rfl _ _ rfl w3.heap.size u12 j _ rfl (HO6.out.p.alloc _) (some ⟨w7.heap.size, 0, none⟩) 1 1 (fun _ => 0) rfl (fun i hi => ⟨w7.heap.size, 0, #[.int .i64 0], _, _, rfl, heap_alloc_new _ _, by obtain rfl : i = 0 := (by omega); rfl⟩) (fun h => by cases h) (by omega) (by have := HO6.out.be.size; simp; omega) ?_; intro v8 w8 ho8 hg8; (have hap := HO6.out.app1 (by decide) ho8 hg8); (have HO8 := Lib.hid hap.1); (have hx8 := hap.2 _ _ _ (by decide) hx6); clear hap ho8 hg8) | ((with_reducible refine at_load 43 ?_); refine wpList_load_part rfl 43 _ rfl (gx) (0) rfl _ (Xf) _ _ 4 (hx8) Try.underlying43 rfl (by kernel_rfl) (by rw [HXs.out]; omega) (Xf) (HXe.out) ?_) | ((with_reducible refine at_slice1 35 ?_); obtain ⟨ip, zp, ip1, ip2, ip3, ip4, ip5⟩ := info_set; refine wpList_slice1c rfl 35 43 _ rfl Xf 4 rfl HXs.out ip zp Try.underlying35 ip1 ip2 ip3 ip5 (by omega) (by omega) ?_; clear ip1 ip2 ip3 ip4 ip5) | ((with_reducible refine at_append 35 ?_); refine wpList_append_row1 rfl _ _ rfl Try.underlying35 info_set (by omega) HXs.out HXa.out w3.heap.size u11 j _ rfl HO8.out.r rfl (by omega) HO8.out.be.size ?_; intro v9 w9 ho9 hg9 hq9; (have HLAST := Lib.hid (HO8.out.app2 (by decide) (by rw [HXf.out] at ho9; exact ho9) hg9)); clear ho9 hg9 hq9))
                go_roundg (k - (j + 1))
                case measure => omega
                case rel =>
                  obtain ⟨e1, e2, e3⟩ := HMF.out
                  exact ⟨j + 1, by omega, rfl, by go_num, by rw [HMS.out]; congr 1; omega, by rw [HMS.out]; congr 1; omega, by
                    rw [← HFLX.out, ← HZLX.out]; exact HLAST.out⟩
            · have HFLX := Lib.hid (HFL.out (c + v) false (by omega) (by rw [decide_eq_false hneg]))
              obtain ⟨Xf, hXf⟩ : ∃ Xf, Xf = sA x (c + v) false 0 := ⟨_, rfl⟩
              by_cases hvn : v < 0
              · have HZLX := Lib.hid (HZL.out 0 (by omega))
                go_upto_region 30 with fail
                clear cx fx s1 s2
                generalize w6 = w7 at *
                have HO6 := Lib.hid (HO.out.after HW6.out)
                rw [← hXf] at hx6
                have HXf := Lib.hid hXf
                have hXs : Xf.size = 4 := by rw [hXf]; exact sA_size _ _ _ _
                have hXa : Xf.all (·.oneCell') = true := by rw [hXf]; exact sA_all _ _ _ _
                have HXs := Lib.hid hXs
                have HXa := Lib.hid hXa
                have HXe := Lib.hid (extract_all hXs)
                clear hXf hXs hXa
                go_wp2_with (first
                  | ((with_reducible refine at_append 48 ?_); refine wpList_append_ints rfl _ _ rfl w3.heap.size u12 j _ rfl (HO6.out.p.alloc _) (some ⟨w7.heap.size, 0, none⟩) 1 1 (fun _ => 0) rfl (fun i hi => ⟨w7.heap.size, 0, #[.int .i64 0], _, _, rfl, heap_alloc_new _ _, by obtain rfl : i = 0 := (by omega); rfl⟩) (fun h => by cases h) (by omega) (by have := HO6.out.be.size; simp; omega) ?_; intro v8 w8 ho8 hg8; (have hap := HO6.out.app1 (by decide) ho8 hg8); (have HO8 := Lib.hid hap.1); (have hx8 := hap.2 _ _ _ (by decide) hx6); clear hap ho8 hg8) | ((with_reducible refine at_load 43 ?_); refine wpList_load_part rfl 43 _ rfl (gx) (0) rfl _ (Xf) _ _ 4 (hx8) Try.underlying43 rfl (by kernel_rfl) (by rw [HXs.out]; omega) (Xf) (HXe.out) ?_) | ((with_reducible refine at_slice1 35 ?_); obtain ⟨ip, zp, ip1, ip2, ip3, ip4, ip5⟩ := info_set; refine wpList_slice1c rfl 35 43 _ rfl Xf 4 rfl HXs.out ip zp Try.underlying35 ip1 ip2 ip3 ip5 (by omega) (by omega) ?_; clear ip1 ip2 ip3 ip4 ip5) | ((with_reducible refine at_append 35 ?_); refine wpList_append_row1 rfl _ _ rfl Try.underlying35 info_set (by omega) HXs.out HXa.out w3.heap.size u11 j _ rfl HO8.out.r rfl (by omega) HO8.out.be.size ?_; intro v9 w9 ho9 hg9 hq9; (have HLAST := Lib.hid (HO8.out.app2 (by decide) (by rw [HXf.out] at ho9; exact ho9) hg9)); clear ho9 hg9 hq9))
                go_roundg (k - (j + 1))
                case measure => omega
                case rel =>
                  obtain ⟨e1, e2, e3⟩ := HMF.out
                  exact ⟨j + 1, by omega, rfl, by go_num, by rw [HMS.out]; congr 1; omega, by rw [HMS.out]; congr 1; omega, by
                    rw [← HFLX.out, ← HZLX.out]; exact HLAST.out⟩
              · have HZLX := Lib.hid (HZL.out v (by omega))
                go_upto_region 30 with fail
                clear cx fx s1 s2
                generalize w6 = w7 at *
                have HO6 := Lib.hid (HO.out.after HW6.out)
                rw [← hXf] at hx6
                have HXf := Lib.hid hXf
                have hXs : Xf.size = 4 := by rw [hXf]; exact sA_size _ _ _ _
                have hXa : Xf.all (·.oneCell') = true := by rw [hXf]; exact sA_all _ _ _ _
                have HXs := Lib.hid hXs
                have HXa := Lib.hid hXa
                have HXe := Lib.hid (extract_all hXs)
                clear hXf hXs hXa
                go_wp2_with (first
                  | ((with_reducible refine at_append 48 ?_); refine wpList_append_ints rfl _ _ rfl w3.heap.size u12 j _ rfl (HO6.out.p.alloc _) (some ⟨w7.heap.size, 0, none⟩) 1 1 (fun _ => v) rfl (fun i hi => ⟨w7.heap.size, 0, #[.int .i64 v], _, _, rfl, heap_alloc_new _ _, by obtain rfl : i = 0 := (by omega); rfl⟩) (fun h => by cases h) (by omega) (by have := HO6.out.be.size; simp; omega) ?_; intro v8 w8 ho8 hg8; (have hap := HO6.out.app1 (by decide) ho8 hg8); (have HO8 := Lib.hid hap.1); (have hx8 := hap.2 _ _ _ (by decide) hx6); clear hap ho8 hg8) | ((with_reducible refine at_load 43 ?_); refine wpList_load_part rfl 43 _ rfl (gx) (0) rfl _ (Xf) _ _ 4 (hx8) Try.underlying43 rfl (by kernel_rfl) (by rw [HXs.out]; omega) (Xf) (HXe.out) ?_) | ((with_reducible refine at_slice1 35 ?_); obtain ⟨ip, zp, ip1, ip2, ip3, ip4, ip5⟩ := info_set; refine wpList_slice1c rfl 35 43 _ rfl Xf 4 rfl HXs.out ip zp Try.underlying35 ip1 ip2 ip3 ip5 (by omega) (by omega) ?_; clear ip1 ip2 ip3 ip4 ip5) | ((with_reducible refine at_append 35 ?_); refine wpList_append_row1 rfl _ _ rfl Try.underlying35 info_set (by omega) HXs.out HXa.out w3.heap.size u11 j _ rfl HO8.out.r rfl (by omega) HO8.out.be.size ?_; intro v9 w9 ho9 hg9 hq9; (have HLAST := Lib.hid (HO8.out.app2 (by decide) (by rw [HXf.out] at ho9; exact ho9) hg9)); clear ho9 hg9 hq9))
                go_roundg (k - (j + 1))
                case measure => omega
                case rel =>
                  obtain ⟨e1, e2, e3⟩ := HMF.out
                  exact ⟨j + 1, by omega, rfl, by go_num, by rw [HMS.out]; congr 1; omega, by rw [HMS.out]; congr 1; omega, by
                    rw [← HFLX.out, ← HZLX.out]; exact HLAST.out⟩
          · obtain rfl : j = k := by omega
            have hl0 : 0 ≤ lf ∧ lf ≤ M := by omega
            have hsp := mx_split (T := lf) HM.out hn HS0.out hl0.1 (by rw [← hMe]; exact hl0.2)
            have hpt : ∀ i, splP (mxV V) j lf i = cutN fund j C V i := fun i => by
              rw [mx_part]; unfold cutN; rw [← hMe, ← hle]
            obtain ⟨a12, c12, rfl, hI⟩ := own_ints HO.out.p
            have cs := rspl_any a12 j c12 (mxV V) lf wr (fun i => by have := (HB.out i).2.2; unfold F64 at this; unfold mxV F64; omega) hI (by unfold F64; omega)
            unfold RSplC at cs
            rw [hsp] at cs
            have HSP := Lib.hid hsp
            have HPT := Lib.hid hpt
            have HTF3 := Lib.hid (show tf = f from by rw [HTF2.out, ← hMe, ← hfe])
            clear hsp hpt hI hMe hfe hle
            go_wp2_with (first | (go_at_call 24; (with_reducible refine (cs).mono ?_); rintro e w5 ⟨⟨v5, rfl, hv5⟩, hb5⟩; replace hv5 := Lib.hid hv5; replace hb5 := Lib.hid hb5))
            have hpr := hv5.out.1 HSP.out
            rw [show (fun i => ((splP (mxV V) j lf i : Nat) : Int)) = fun i => ((cutN fund j C V i : Nat) : Int) from funext fun i => by rw [HPT.out]] at hpr
            have HB5 := Lib.hid (below_then HB3.out (below_then HO.out.be hb5.out))
            have hor := own_below hb5.out HO.out.r
            have HF3 := Lib.hid (below_then HO.out.be hb5.out)
            rcases Nat.eq_zero_or_pos j with hj0 | hjp
            · obtain ⟨a5, c5, rfl⟩ := own_len hpr
              obtain ⟨a6, c6, rfl⟩ := own_len hor
              have hj1 : (j : Int) = 0 := by omega
              clear hpr hor hv5 hb5
              go_loopg [19] 0 (fun gh v19 wx => v19 = .int .i64 0 ∧ wx = w5)
              case atStart => exact ⟨rfl, rfl⟩
              case round =>
                obtain ⟨rfl, rfl⟩ := hrel
                go_wp2
                go_ret3
                exact ⟨⟨_, by rw [HTF3.out]; rfl, fun _ => ⟨a6, c6, by first | rfl | (rw [hj0]), fun i hi => by omega⟩, fun h => absurd HTE.out.symm h⟩, HB5.out⟩
            · obtain ⟨gO, cO, rfl, hcO, hOR⟩ := OR.start (a := A) (c := fun t => max (C t + V t) 0) (d := fun t => decide (C t + V t < 0)) (u := fun _ => 0) hjp HF3.out hor
              obtain ⟨gp, cp, PA, rfl, hgp, hPA, hpc, _, hps, hpp⟩ := own_zl hjp hpr
              have HPV := Lib.hid hpp
              have HOR := Lib.hid hOR
              have hne : gp ≠ gO := fun e => by
                obtain ⟨G, h1, _⟩ := hOR.row
                rw [← e, hPA] at h1
                injection h1 with h1; injection h1 with _ h1
                exact absurd h1 (by decide)
              have HCUT := Lib.hid (fun (i : Nat) (hi : i < j) => cut_le HM.out HS0.out HF.out.1 hi)
              clear hor hpr hv5 hb5 hOR hpp hps
              go_loopg [19] j (fun gh v19 wx => ∃ i : Nat, i ≤ j ∧ gh = j - i ∧ v19 = .int .i64 i ∧ wx.heap[gp]? = some (.cells PA 2 (0, 0)) ∧
                OR w3 wx gO j A (fun t => max (C t + V t) 0 - (if t < i then ((cutN fund j C V t : Nat) : Int) else 0)) (fun t => decide (C t + V t < 0)) (fun t => if t < i then ((cutN fund j C V t : Nat) : Int) else 0))
              case atStart => exact ⟨0, by omega, by omega, rfl, hPA, HOR.out.congr (fun _ _ => rfl) (fun t _ => by rw [if_neg (by omega), Int.sub_zero]) (fun _ _ => rfl) (fun t _ => by rw [if_neg (by omega)])⟩
              case round =>
                clear HOR hPA
                obtain ⟨i, hi, rfl, rfl, hP, hR⟩ := hrel
                have HR := Lib.hid hR
                clear hR
                by_cases hlt : i < j
                · have hii : (i : Int) < j := by omega
                  obtain ⟨G, hG, hGs, hGe⟩ := HR.out.row
                  obtain ⟨_, e1, _, e3⟩ := hGe i hlt
                  have hcu := HCUT.out i hlt
                  have hpv := HPV.out i hlt
                  obtain ⟨_, hcd, hvd⟩ := dmay_at HM.out hlt
                  rw [if_neg (by omega), Int.sub_zero] at e1
                  rw [if_neg (by omega)] at e3
                  obtain ⟨y, hye⟩ : ∃ y, y = max (C i + V i) 0 := ⟨_, rfl⟩
                  obtain ⟨u, hue⟩ : ∃ u, u = cutN fund j C V i := ⟨_, rfl⟩
                  rw [← hye] at e1
                  rw [← hue] at hcu hpv
                  have hyb : 0 ≤ y ∧ y ≤ 101000000000000000 := by omega
                  have hub : (u : Int) ≤ 100000000000000000 := by omega
                  have wyu : IntKind.i64.wrap (y - (u : Int)) = y - (u : Int) := by rw [IntKind.wrap_i64]; omega
                  have HYU := Lib.hid (And.intro hye hue)
                  have cG := (cells_of hG).1
                  have fG := (cells_of hG).2.1
                  have cP := (cells_of hP).1
                  have HP7 := Lib.hid (heap_set_other (i := i * 4 + 3) (v := .int .i64 (u : Int)) hP hne)
                  have HR7 := Lib.hid (HR.out.setu hlt (u : Int))
                  have HG7 := Lib.hid (heap_set (i := i * 4 + 3) (v := .int .i64 (u : Int)) hG)
                  have e17 : (G.setIfInBounds (i * 4 + 3) (.int .i64 (u : Int)))[i * 4 + 1]? = some (.int .i64 y) := by rw [Array.getElem?_setIfInBounds_ne (by omega)]; exact e1
                  clear hye hue hcu hcd hvd hGe hGs hP
                  go_upto_region 40 with fail
                  obtain ⟨w7, hw7⟩ : ∃ w7, w7 = wr.setCell ⟨gO, i * 4 + 3, none⟩ (.int .i64 (u : Int)) := ⟨_, rfl⟩
                  obtain ⟨G7, hG7⟩ : ∃ G7, G7 = G.setIfInBounds (i * 4 + 3) (.int .i64 (u : Int)) := ⟨_, rfl⟩
                  rw [← hw7] at HP7 HR7 HG7
                  rw [← hG7] at HG7 e17
                  rw [← hw7]
                  clear hw7 hG7 cG fG cP e1 e3 hG
                  refine wp_region_tail 14 (by kernel_rfl) (by kernel_rfl) (by kernel_rfl) (by kernel_rfl) rfl rfl (by kernel_rfl) (by kernel_rfl) ?_
                  simp only [List.take, List.getD, List.getElem?_cons_succ, List.getElem?_cons_zero, Option.getD]
                  repeat (first | ((with_reducible apply q_skip); (case hw => rfl); (try simp only [Act.put, List.setIfInBounds_toArray, List.set_cons_zero, List.set_cons_succ])) | ((with_reducible apply q_val); (case hw => rfl); (case hv => intro wq hbq; have hcq := cellF (Yticdcdahehodkaa.kept hbq HG7.out); have hcp := cellF (Yticdcdahehodkaa.kept hbq HP7.out); go_simp; try rfl); (try simp only [Act.put, List.setIfInBounds_toArray, List.set_cons_zero, List.set_cons_succ])))
                  refine q_nil ?_
                  intro w8 hb8
                  have HR8 := Lib.hid (HR7.out.after hb8)
                  have HP8 := Lib.hid (Yticdcdahehodkaa.kept hb8 HP7.out)
                  have c8 := (cells_of (Yticdcdahehodkaa.kept hb8 HG7.out)).1
                  have f8 := (cells_of (Yticdcdahehodkaa.kept hb8 HG7.out)).2.1
                  clear hb8
                  go_wp2_with fail
                  go_roundg (j - (i + 1))
                  case measure => omega
                  case rel =>
                    obtain ⟨ey, eu⟩ := HYU.out
                    refine ⟨i + 1, by omega, rfl, by go_num, heap_set_other HP8.out hne, (HR8.out.setc hlt (y - (u : Int))).congr (fun _ _ => rfl) (fun t ht => ?_) (fun _ _ => rfl) (fun t ht => ?_)⟩
                    · by_cases e : t = i
                      · subst e; rw [put_at, if_pos (by omega), ey, eu]
                      · rw [put_ne _ _ e]
                        by_cases h : t < i
                        · rw [if_pos (by omega), if_pos h]
                        · rw [if_neg (by omega), if_neg h]
                    · by_cases e : t = i
                      · subst e; rw [put_at, if_pos (by omega), eu]
                      · rw [put_ne _ _ e]
                        by_cases h : t < i
                        · rw [if_pos (by omega), if_pos h]
                        · rw [if_neg (by omega), if_neg h]
                · obtain rfl : i = j := by omega
                  go_wp2
                  go_ret3
                  exact ⟨⟨_, by rw [HTF3.out]; rfl, fun _ => ⟨_, _, rfl, RowsC.congr HR.out.rows (fun t ht => by simp only [if_pos ht])⟩, fun h => absurd HTE.out.symm h⟩, below_then HB3.out HR.out.be⟩
      · rw [decide_eq_false hs0] at cz
        obtain ⟨h2, h2f⟩ := HTE1.out hm hs0
        have h7 : te = 130 := HTE.out.trans h2
        have h8 : tf = 0 := HTF.out.trans h2f
        subst h7; subst h8
        clear h2 h2f hm hs0 HTE0 HTE1 HTE2
        go_wp2_with (first | ((with_reducible refine at_load 58 ?_); refine wpList_load_part rfl 58 _ rfl (gS) (0) rfl _ (X) _ _ 13 (hS) Try.underlying58 rfl (by kernel_rfl) (by rw [HXS.out]; omega) (X) (HXE.out) ?_) | (go_at_call 29; (with_reducible refine (cz _).mono ?_); rintro e w3 ⟨rfl, hb3⟩))
        go_ret3
        exact ⟨⟨_, rfl, fun h => by rw [← HTE.out] at h; omega, fun _ => rfl⟩, below_then HW.out hb3⟩
end Go.Proofs.Yticdcdahehodkaa
