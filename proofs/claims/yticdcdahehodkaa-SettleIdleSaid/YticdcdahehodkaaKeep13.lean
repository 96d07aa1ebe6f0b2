/- SettleKeeps, walked: it returns true. Condition: the numbers fit their kinds. -/
import Derived.Test.YticdcdahehodkaaKnS
import Derived.BigQuiet
import Derived.Deep.CutBlock
namespace Go.Proofs.Yticdcdahehodkaa
set_option linter.unusedVariables false
set_option linter.unusedSimpArgs false
open Go.RowKit

theorem sE_ok {fund : Int} {n : Nat} {A C V : Nat → Int} (h : sE fund n A C V = 0) : n ≤ 64 ∧ dmay A C V n = true ∧ (0 ≤ fund ∧ fund ≤ 1000000000000000) ∧ sumZ V n = 0 := by
  unfold sE at h
  split at h
  · omega
  · rename_i h1
    split at h
    · omega
    · rename_i h2
      split at h
      · omega
      · rename_i h3
        have h4 : (dmay A C V n && inB fund 0 1000000000000000) = true := by
          cases e : (dmay A C V n && inB fund 0 1000000000000000)
          · exact absurd e h2
          · rfl
        rw [Bool.and_eq_true] at h4
        exact ⟨by omega, h4.1, inB_iff.1 h4.2, by omega⟩
/-- what the answer says, due by due -/
structure Kept (fund : Int) (n : Nat) (C V : Nat → Int) (i : Nat) : Prop where
  le : (cutN fund n C V i : Int) ≤ max (V i) 0
  cb : 0 ≤ C i ∧ C i ≤ 1000000000000000
  vb : -100000000000000000 ≤ V i ∧ V i ≤ 100000000000000000
  more : 0 < cutN fund n C V i → fund - min fund (miss C V n) = 0
theorem kept_of {fund : Int} {n : Nat} {A C V : Nat → Int} (h : sE fund n A C V = 0) {i : Nat} (hi : i < n) : Kept fund n C V i := by
  obtain ⟨h1, h2, h3, h4⟩ := sE_ok h
  obtain ⟨_, h5, h6⟩ := dmay_at h2 hi
  refine ⟨cut_le h2 h4 h3.1 hi, h5, h6, fun hc => ?_⟩
  apply Classical.byContradiction; intro hne
  have : (miss C V n - min fund (miss C V n)).toNat = 0 := by omega
  unfold cutN at hc
  rw [this, prt_zero] at hc; omega
/-- all cuts together are what the fund lacks -/
theorem cut_sum {fund : Int} {n : Nat} {A C V : Nat → Int} (h : sE fund n A C V = 0) : ((sumN (cutN fund n C V) n : Nat) : Int) = miss C V n - min fund (miss C V n) := by
  obtain ⟨h1, h2, h3, h4⟩ := sE_ok h
  have h5 := (miss_won h2 n (Nat.le_refl _)).1
  have h6 := (miss_bd h2 n (Nat.le_refl _)).1
  by_cases hS : 0 < sumN (wts V) n
  · have := prt_sum (T := (miss C V n - min fund (miss C V n)).toNat) hS
    have e : sumN (cutN fund n C V) n = (miss C V n - min fund (miss C V n)).toNat := this
    rw [e]; omega
  · have h0 : (miss C V n - min fund (miss C V n)).toNat = 0 := by omega
    have e : sumN (cutN fund n C V) n = 0 := by
      rw [sumN_congr (V := fun _ => 0) n (fun i _ => by unfold cutN; rw [h0, prt_zero]), sumN_const]; omega
    rw [e]; omega
/-- all cash afterwards -/
def cashZ (fund : Int) (n : Nat) (C V : Nat → Int) : Nat → Int := fun i => max (C i + V i) 0 - (cutN fund n C V i : Nat)
theorem cash_part (fund : Int) (n : Nat) (C V : Nat → Int) : ∀ k, sumZ (cashZ fund n C V) k = sumZ C k + sumZ V k + miss C V k - (sumN (cutN fund n C V) k : Nat)
  | 0 => rfl
  | k + 1 => by
    show sumZ (cashZ fund n C V) k + cashZ fund n C V k = sumZ C k + C k + (sumZ V k + V k) + miss C V (k + 1) - ((sumN (cutN fund n C V) k + cutN fund n C V k : Nat) : Int)
    rw [cash_part fund n C V k, miss_succ]
    unfold cashZ; omega
theorem cash_all {fund : Int} {n : Nat} {A C V : Nat → Int} (h : sE fund n A C V = 0) : fund + sumZ C n = fund - min fund (miss C V n) + sumZ (cashZ fund n C V) n := by
  rw [cash_part, cut_sum h, (sE_ok h).2.2.2]; omega
theorem sumC_bd {f : Nat → Int} {m : Int} : ∀ n, (∀ i, i < n → 0 ≤ f i ∧ f i ≤ m) → 0 ≤ sumZ f n ∧ sumZ f n ≤ n * m
  | 0, _ => by simp [sumZ]
  | n + 1, h => by
    have h1 := sumC_bd n (fun i hi => h i (by omega))
    have h2 := h n (by omega)
    show 0 ≤ sumZ f n + f n ∧ sumZ f n + f n ≤ ((n + 1 : Nat) : Int) * m
    rw [show ((n + 1 : Nat) : Int) * m = n * m + m by rw [show ((n + 1 : Nat) : Int) = (n : Int) + 1 by omega, Int.add_mul, Int.one_mul]]
    omega

set_option maxRecDepth 100000 in
set_option maxHeartbeats 8000000 in
theorem keep13_walk (fund : Int) (a : Option Addr) (n cap : Nat) (A C V : Nat → Int) (W : World) (hf : F64 fund) (hb : ∀ i, (0 ≤ A i ∧ A i ≤ 4294967295) ∧ F64 (C i) ∧ F64 (V i)) (hA : Dues W a n A C V) :
    Calls Try.prog 8 #[.int .i64 fund, .slice a n cap] W fun e W' => e = .returned (.bool true) ∧ Below W.heap.size W W' := by
  have c1 := settle_any fund a n cap A C V W hb hA
  unfold SetC at c1
  have HA := Lib.hid hA
  clear hA hb hf
  by_cases hE : sE fund n A C V = 0
  · obtain ⟨hn, hm, hfb, hs0⟩ := sE_ok hE
    have hsf : sF fund n A C V = fund - min fund (miss C V n) := by unfold sF; rw [if_pos hE]
    have hmb := (miss_bd hm n (Nat.le_refl _)).1
    obtain ⟨f, hf⟩ : ∃ f, f = fund - min fund (miss C V n) := ⟨_, rfl⟩
    rw [hE, hsf, ← hf] at c1
    have hf2 : 0 ≤ f ∧ f ≤ fund := by omega
    have HK := Lib.hid (show ∀ i, i < n → Kept fund n C V i from fun i hi => kept_of hE hi)
    have HALL := Lib.hid (cash_all hE)
    have HE := Lib.hid hE
    have HF := Lib.hid hf
    clear hE hs0 hsf hmb hf
    go_enter Try.func8, Try.ntmps8
    go_wp2_with fail
    refine c1.mono ?_
    rintro e w1 ⟨⟨v, rfl, hv⟩, hb1⟩
    obtain ⟨go, rfl, hgo, hO⟩ := hv.1 HE.out
    have HO := Lib.hid hO
    have HB1 := Lib.hid hb1
    clear hv hO hb1 c1
    go_wp2_with fail
    go_loopg [8, 9, 50] n (fun gh v8 v9 vi wr => ∃ k : Nat, k ≤ n ∧ gh = n - k ∧ vi = .int .i64 k ∧ v8 = .int .i64 (fund + sumZ C k) ∧ v9 = .int .i64 (f + sumZ (cashZ fund n C V) k) ∧ Below w1.heap.size w1 wr)
    case atStart => exact ⟨0, by omega, by omega, rfl, by rw [show sumZ C 0 = 0 from rfl, Int.add_zero], by rw [show sumZ (cashZ fund n C V) 0 = 0 from rfl, Int.add_zero], Below.refl _ _⟩
    case round =>
      obtain ⟨k, hk, rfl, rfl, rfl, rfl, hbx⟩ := hrel
      have HX := Lib.hid hbx
      clear hbx
      by_cases hlt : k < n
      · have hki : (k : Int) < n := by omega
        obtain ⟨g, off, B, t, fr, rfl, hg, hs, he, _, _, _⟩ := (HA.out.kept (below_then HB1.out HX.out)).at hlt
        obtain ⟨G, hG, hGs, hGe⟩ := (HO.out.kept HX.out).ext hlt
        have HKK := Lib.hid (HK.out k hlt)
        obtain ⟨x, hx⟩ : ∃ x, x = A k := ⟨_, rfl⟩
        obtain ⟨c, hc⟩ : ∃ x, x = C k := ⟨_, rfl⟩
        obtain ⟨v, hv⟩ : ∃ x, x = V k := ⟨_, rfl⟩
        obtain ⟨u, hu⟩ : ∃ x, x = cutN fund n C V k := ⟨_, rfl⟩
        rw [← hx, ← hc, ← hv] at he
        rw [← hx, ← hc, ← hv, ← hu] at hGe
        have HXX := Lib.hid (And.intro hx (And.intro hc (And.intro hv hu)))
        obtain ⟨y, hy⟩ : ∃ y, y = max (c + v) 0 - (u : Int) := ⟨_, rfl⟩
        obtain ⟨d, hd⟩ : ∃ d, d = decide (c + v < 0) := ⟨_, rfl⟩
        rw [← hy, ← hd] at hGe
        have HYY := Lib.hid (And.intro hy hd)
        have HX2 := Lib.hid (extract_all (dA_size x c v))
        have HX3 := Lib.hid (extract_all (sA_size x y d u))
        clear hx hc hv hu hy hd
        have hgx1 : g < w1.heap.size := by
          obtain ⟨g', off', B', t', fr', e', hg', _⟩ := HA.out k hlt
          injection e' with e'; injection e' with e1 e2
          rw [e1]; exact Nat.lt_of_lt_of_le (Array.getElem?_eq_some_iff.1 hg').1 HB1.out.size
        have hgx2 : go < w1.heap.size := HO.out.lt
        go_upto_region 10 with fail
        go_cut [11, 12] from 53 to 60 (fun v11 v12 wx => ∃ gd gx : Nat, v11 = .pointer (some ⟨gd, 0, none⟩) ∧ v12 = .pointer (some ⟨gx, 0, none⟩) ∧ wx.heap[gd]? = some (.cells (dA x c v) 39 (0, 0)) ∧ wx.heap[gx]? = some (.cells (sA x y d u) 43 (0, 0)) ∧ Below w1.heap.size w1 wx)
        case first =>
          refine wp_region_held (S := fun wt => wt.heap[g]? = some (.cells B t fr) ∧ wt.heap[go]? = some (.cells G 43 (0, 0))) (by kernel_rfl) ?_
          change wpAnyH _ _ _ _ _ _ _ _ (World.drew _)
          obtain ⟨wq, hwq⟩ : ∃ wq, wq = wr.drew := ⟨_, rfl⟩
          have HS : wq.heap[g]? = some (.cells B t fr) ∧ wq.heap[go]? = some (.cells G 43 (0, 0)) := by rw [hwq]; exact ⟨hg, hG⟩
          have HBQ := Lib.hid (show Below w1.heap.size w1 wq from by rw [hwq]; exact Below.drew HX.out)
          have hzq := HBQ.out.size
          rw [← hwq]
          clear hwq hg hG
          (refine wpAnyH_take (i := 0) (v := ?_) rfl (by kernel_rfl) (by kernel_rfl) (by kernel_rfl) (fun _ _ _ h => h) (Or.inl ⟨by rfl, ?ht_0⟩) HS ?_); (case ht_0 => (intro wt hS; go_simp; try with_reducible rfl)); (try simp only [Act.put, List.getElem_toArray, List.getElem_cons_zero, List.getElem_cons_succ, List.setIfInBounds_toArray, List.set_cons_zero, List.set_cons_succ]); (refine wpAnyH_take (i := 1) (v := ?_) rfl (by kernel_rfl) (by kernel_rfl) (by kernel_rfl) (fun _ _ _ h => h) (Or.inl ⟨by rfl, ?ht_1⟩) HS ?_); (case ht_1 => (intro wt hS; go_simp; try with_reducible rfl)); (try simp only [Act.put, List.getElem_toArray, List.getElem_cons_zero, List.getElem_cons_succ, List.setIfInBounds_toArray, List.set_cons_zero, List.set_cons_succ]); (refine wpAnyH_take (i := 2) (v := ?_) rfl (by kernel_rfl) (by kernel_rfl) (by kernel_rfl) (fun _ _ _ h => h) (Or.inl ⟨by rfl, ?ht_2⟩) HS ?_); (case ht_2 => (intro wt hS; go_simp; try with_reducible rfl)); (try simp only [Act.put, List.getElem_toArray, List.getElem_cons_zero, List.getElem_cons_succ, List.setIfInBounds_toArray, List.set_cons_zero, List.set_cons_succ])
          (refine wpAnyH_take (i := 3) (v := .agg (dA x c v)) rfl (by kernel_rfl) (by kernel_rfl) (by kernel_rfl) (fun _ _ _ h => h) (Or.inl ⟨by rfl, ?ht_3⟩) HS ?_); (case ht_3 => (intro wt hS; exact exec_load_part 39 _ rfl g (off + k * 3) (by rfl) _ B _ _ 3 hS.1 Try.underlying39 rfl (by kernel_rfl) hs _ he)); (try simp only [Act.put, List.getElem_toArray, List.getElem_cons_zero, List.getElem_cons_succ, List.setIfInBounds_toArray, List.set_cons_zero, List.set_cons_succ])
          (refine wpAnyH_take (i := 4) (v := ?_) rfl (by kernel_rfl) (by kernel_rfl) (by kernel_rfl) (fun _ _ _ h => h) (Or.inl ⟨by rfl, ?ht_4⟩) HS ?_); (case ht_4 => (intro wt hS; go_simp; try with_reducible rfl)); (try simp only [Act.put, List.getElem_toArray, List.getElem_cons_zero, List.getElem_cons_succ, List.setIfInBounds_toArray, List.set_cons_zero, List.set_cons_succ]); (refine wpAnyH_take (i := 5) (v := ?_) rfl (by kernel_rfl) (by kernel_rfl) (by kernel_rfl) (fun _ _ _ h => h) (Or.inl ⟨by rfl, ?ht_5⟩) HS ?_); (case ht_5 => (intro wt hS; go_simp; try with_reducible rfl)); (try simp only [Act.put, List.getElem_toArray, List.getElem_cons_zero, List.getElem_cons_succ, List.setIfInBounds_toArray, List.set_cons_zero, List.set_cons_succ]); (refine wpAnyH_take (i := 6) (v := ?_) rfl (by kernel_rfl) (by kernel_rfl) (by kernel_rfl) (fun _ _ _ h => h) (Or.inl ⟨by rfl, ?ht_6⟩) HS ?_); (case ht_6 => (intro wt hS; go_simp; try with_reducible rfl)); (try simp only [Act.put, List.getElem_toArray, List.getElem_cons_zero, List.getElem_cons_succ, List.setIfInBounds_toArray, List.set_cons_zero, List.set_cons_succ])
          (refine wpAnyH_take (i := 7) (v := .agg (sA x y d u)) rfl (by kernel_rfl) (by kernel_rfl) (by kernel_rfl) (fun _ _ _ h => h) (Or.inl ⟨by rfl, ?ht_7⟩) HS ?_); (case ht_7 => (intro wt hS; exact exec_load_part 43 _ rfl go (k * 4) (by rfl) _ G _ _ 4 hS.2 Try.underlying43 rfl (by kernel_rfl) hGs _ hGe)); (try simp only [Act.put, List.getElem_toArray, List.getElem_cons_zero, List.getElem_cons_succ, List.setIfInBounds_toArray, List.set_cons_zero, List.set_cons_succ])
          refine wpAnyH_ready (rs := [8, 9]) (by kernel_rfl) (by decide) ?_
          refine AllReadyH.cons rfl (fun K' hK => ?_) (AllReadyH.cons rfl (fun K' hK => ?_) AllReadyH.nil)
          · rw [if_pos (by rfl)]
            go_simp
            refine hK.out _ _ ⟨heap_up HS.1, heap_up HS.2⟩ (fun HS => ?_)
            clear hK K'
            (try simp only [Act.put, List.getElem_toArray, List.getElem_cons_zero, List.getElem_cons_succ, List.setIfInBounds_toArray, List.set_cons_zero, List.set_cons_succ])
            (refine wpAnyH_ready (rs := [9]) (by kernel_rfl) (by decide) ?_); (refine AllReadyH.cons rfl (fun K' hK => ?_) AllReadyH.nil); (rw [if_pos (by rfl)])
            go_simp
            refine hK.out _ _ ⟨heap_up HS.1, heap_up HS.2⟩ (fun HS => ?_)
            clear hK K'
            (try simp only [Act.put, List.getElem_toArray, List.getElem_cons_zero, List.getElem_cons_succ, List.setIfInBounds_toArray, List.set_cons_zero, List.set_cons_succ])
            obtain ⟨wz, hwz⟩ : ∃ wz, wz = ((wq.alloc (Obj.cells (dA 0 0 0) 39)).alloc (Obj.cells (sA 0 0 false 0) 43)) := ⟨_, rfl⟩
            change wpAnyH _ _ _ _ _ _ _ _ ((wq.alloc (Obj.cells (dA 0 0 0) 39)).alloc (Obj.cells (sA 0 0 false 0) 43))
            rw [← hwz]
            obtain ⟨gd, hgd0⟩ : ∃ gd, gd = wq.heap.size := ⟨_, rfl⟩
            obtain ⟨gx, hgx0⟩ : ∃ gx, gx = wq.heap.size + 1 := ⟨_, rfl⟩
            have hgd : wz.heap[gd]? = some (.cells (dA 0 0 0) 39 (0, 0)) := by rw [hwz, hgd0]; exact (by repeat (first | exact heap_new (by simp; done) | refine heap_up ?_))
            have hgx : wz.heap[gx]? = some (.cells (sA 0 0 false 0) 43 (0, 0)) := by rw [hwz, hgx0]; exact (by repeat (first | exact heap_new (by simp; done) | refine heap_up ?_))
            have hbz : Below w1.heap.size w1 wz := by rw [hwz]; exact below_alloc (below_alloc HBQ.out _) _
            have HSZ : wz.heap[g]? = some (.cells B t fr) ∧ wz.heap[go]? = some (.cells G 43 (0, 0)) := by rw [hwz]; exact HS
            clear HS
            have HS := HSZ
            have hne : gd ≠ gx := by omega
            have hge : w1.heap.size ≤ gd ∧ w1.heap.size ≤ gx := by omega
            rw [← hgx0, ← hgd0]
            clear hwz hgd0 hgx0 HSZ
            (refine wpAnyH_ready (rs := [10]) (by kernel_rfl) (by decide) ?_); (refine AllReadyH.cons rfl (fun K' hK => ?_) AllReadyH.nil); (rw [if_pos (by rfl)])
            refine op_store_over' 39 _ _ rfl gd (dA x c v) rfl rfl _ (dA 0 0 0) hgd (by kernel_rfl) rfl (dA_all _ _ _) (fun w5 hc5 ho5 hb5 => hK.out _ _ ⟨(ho5 g (by omega)).trans HS.1, (ho5 go (by omega)).trans HS.2⟩ (fun HS => ?_))
            clear hK K'
            (try simp only [Act.put, List.getElem_toArray, List.getElem_cons_zero, List.getElem_cons_succ, List.setIfInBounds_toArray, List.set_cons_zero, List.set_cons_succ])
            have hgx5 := (ho5 gx (Ne.symm hne)).trans hgx
            (refine wpAnyH_ready (rs := [11]) (by kernel_rfl) (by decide) ?_); (refine AllReadyH.cons rfl (fun K' hK => ?_) AllReadyH.nil); (rw [if_pos (by rfl)])
            refine op_store_over' 43 _ _ rfl gx (sA x y d u) rfl rfl _ (sA 0 0 false 0) hgx5 (by kernel_rfl) rfl (sA_all _ _ _ _) (fun w6 hc6 ho6 hb6 => hK.out _ _ ⟨(ho6 g (by omega)).trans HS.1, (ho6 go (by omega)).trans HS.2⟩ (fun HS => ?_))
            clear hK K'
            (try simp only [Act.put, List.getElem_toArray, List.getElem_cons_zero, List.getElem_cons_succ, List.setIfInBounds_toArray, List.set_cons_zero, List.set_cons_succ])
            refine wpAnyH_done (by kernel_rfl) ?_ _
            have hfin := (hbz.trans (hb5 _ hge.1)).trans (hb6 _ hge.2)
            have hdd := (ho6 gd hne).trans hc5
            go_wp2_with fail
            go_meet
            exact ⟨gd, gx, rfl, rfl, hdd, hc6, hfin⟩
          · rw [if_pos (by rfl)]
            go_simp
            refine hK.out _ _ ⟨heap_up HS.1, heap_up HS.2⟩ (fun HS => ?_)
            clear hK K'
            (try simp only [Act.put, List.getElem_toArray, List.getElem_cons_zero, List.getElem_cons_succ, List.setIfInBounds_toArray, List.set_cons_zero, List.set_cons_succ])
            (refine wpAnyH_ready (rs := [8]) (by kernel_rfl) (by decide) ?_); (refine AllReadyH.cons rfl (fun K' hK => ?_) AllReadyH.nil); (rw [if_pos (by rfl)])
            go_simp
            refine hK.out _ _ ⟨heap_up HS.1, heap_up HS.2⟩ (fun HS => ?_)
            clear hK K'
            (try simp only [Act.put, List.getElem_toArray, List.getElem_cons_zero, List.getElem_cons_succ, List.setIfInBounds_toArray, List.set_cons_zero, List.set_cons_succ])
            obtain ⟨wz, hwz⟩ : ∃ wz, wz = ((wq.alloc (Obj.cells (sA 0 0 false 0) 43)).alloc (Obj.cells (dA 0 0 0) 39)) := ⟨_, rfl⟩
            change wpAnyH _ _ _ _ _ _ _ _ ((wq.alloc (Obj.cells (sA 0 0 false 0) 43)).alloc (Obj.cells (dA 0 0 0) 39))
            rw [← hwz]
            obtain ⟨gd, hgd0⟩ : ∃ gd, gd = wq.heap.size + 1 := ⟨_, rfl⟩
            obtain ⟨gx, hgx0⟩ : ∃ gx, gx = wq.heap.size := ⟨_, rfl⟩
            have hgd : wz.heap[gd]? = some (.cells (dA 0 0 0) 39 (0, 0)) := by rw [hwz, hgd0]; exact (by repeat (first | exact heap_new (by simp; done) | refine heap_up ?_))
            have hgx : wz.heap[gx]? = some (.cells (sA 0 0 false 0) 43 (0, 0)) := by rw [hwz, hgx0]; exact (by repeat (first | exact heap_new (by simp; done) | refine heap_up ?_))
            have hbz : Below w1.heap.size w1 wz := by rw [hwz]; exact below_alloc (below_alloc HBQ.out _) _
            have HSZ : wz.heap[g]? = some (.cells B t fr) ∧ wz.heap[go]? = some (.cells G 43 (0, 0)) := by rw [hwz]; exact HS
            clear HS
            have HS := HSZ
            have hne : gd ≠ gx := by omega
            have hge : w1.heap.size ≤ gd ∧ w1.heap.size ≤ gx := by omega
            rw [← hgd0, ← hgx0]
            clear hwz hgd0 hgx0 HSZ
            (refine wpAnyH_ready (rs := [10]) (by kernel_rfl) (by decide) ?_); (refine AllReadyH.cons rfl (fun K' hK => ?_) AllReadyH.nil); (rw [if_pos (by rfl)])
            refine op_store_over' 39 _ _ rfl gd (dA x c v) rfl rfl _ (dA 0 0 0) hgd (by kernel_rfl) rfl (dA_all _ _ _) (fun w5 hc5 ho5 hb5 => hK.out _ _ ⟨(ho5 g (by omega)).trans HS.1, (ho5 go (by omega)).trans HS.2⟩ (fun HS => ?_))
            clear hK K'
            (try simp only [Act.put, List.getElem_toArray, List.getElem_cons_zero, List.getElem_cons_succ, List.setIfInBounds_toArray, List.set_cons_zero, List.set_cons_succ])
            have hgx5 := (ho5 gx (Ne.symm hne)).trans hgx
            (refine wpAnyH_ready (rs := [11]) (by kernel_rfl) (by decide) ?_); (refine AllReadyH.cons rfl (fun K' hK => ?_) AllReadyH.nil); (rw [if_pos (by rfl)])
            refine op_store_over' 43 _ _ rfl gx (sA x y d u) rfl rfl _ (sA 0 0 false 0) hgx5 (by kernel_rfl) rfl (sA_all _ _ _ _) (fun w6 hc6 ho6 hb6 => hK.out _ _ ⟨(ho6 g (by omega)).trans HS.1, (ho6 go (by omega)).trans HS.2⟩ (fun HS => ?_))
            clear hK K'
            (try simp only [Act.put, List.getElem_toArray, List.getElem_cons_zero, List.getElem_cons_succ, List.setIfInBounds_toArray, List.set_cons_zero, List.set_cons_succ])
            refine wpAnyH_done (by kernel_rfl) ?_ _
            have hfin := (hbz.trans (hb5 _ hge.1)).trans (hb6 _ hge.2)
            have hdd := (ho6 gd hne).trans hc5
            go_wp2_with fail
            go_meet
            exact ⟨gd, gx, rfl, rfl, hdd, hc6, hfin⟩
        case rest =>
          obtain ⟨gd, gx, rfl, rfl, hd, hx, hbw⟩ := hcut
          obtain ⟨hy, hdd⟩ := HYY.out
          have hkk := HKK.out
          obtain ⟨ex, ec, ev, eu⟩ := HXX.out
          have q1 := hkk.le
          have q2 := hkk.cb
          have q3 := hkk.vb
          have q4 := hkk.more
          rw [← ev, ← eu] at q1
          rw [← ec] at q2
          rw [← ev] at q3
          rw [← eu, ← HF.out] at q4
          have hcz := sumC_bd (f := C) (m := 1000000000000000) k (fun i hi => (HK.out i (by omega)).cb)
          have hyz := sumC_bd (f := cashZ fund n C V) (m := 101000000000000000) k (fun i hi => by
            have h1 := (HK.out i (by omega)).le
            have h2 := (HK.out i (by omega)).cb
            have h3 := (HK.out i (by omega)).vb
            unfold cashZ; omega)
          have HN1 := Lib.hid (show sumZ C (k + 1) = sumZ C k + c from by rw [ec]; rfl)
          have HN2 := Lib.hid (show sumZ (cashZ fund n C V) (k + 1) = sumZ (cashZ fund n C V) k + y from by rw [hy, ec, ev, eu]; rfl)
          obtain ⟨s1, hs1⟩ : ∃ s1, s1 = fund + sumZ C k := ⟨_, rfl⟩
          obtain ⟨s2, hs2⟩ : ∃ s2, s2 = f + sumZ (cashZ fund n C V) k := ⟨_, rfl⟩
          have HS1 := Lib.hid hs1
          have HS2 := Lib.hid hs2
          rw [← hs1, ← hs2]
          have hy0 : 0 ≤ y ∧ y ≤ 101000000000000000 := by omega
          have w1' : IntKind.i64.wrap (s1 + c) = s1 + c := by rw [IntKind.wrap_i64]; omega
          obtain ⟨s3, hs3⟩ : ∃ s3, s3 = s2 + y := ⟨_, rfl⟩
          have w2' : IntKind.i64.wrap (s2 + y) = s3 := by rw [IntKind.wrap_i64]; omega
          have HS3 := Lib.hid hs3
          have w3' : IntKind.i64.wrap (c + v) = c + v := by rw [IntKind.wrap_i64]; omega
          have HBW := Lib.hid hbw
          have cD := cellF hd
          have cX := cellF hx
          have d0 := dA_0 x c v
          have d1 := dA_1 x c v
          have d2 := dA_2 x c v
          have x0 : (sA x y d u)[0]? = some (.int .u32 x) := rfl
          have x1 : (sA x y d u)[1]? = some (.int .i64 y) := rfl
          have x2 : (sA x y d u)[2]? = some (.bool d) := rfl
          have x3 : (sA x y d u)[3]? = some (.int .i64 (u : Int)) := rfl
          have HQ := Lib.hid (And.intro q1 (And.intro q2 (And.intro q3 q4)))
          have hyb := Lib.hid (And.intro hy hdd)
          clear hs1 hs2 hs3 hcz hyz ex ec ev eu hkk hbw q1 q2 q3 q4 hy hdd hs he hGs hGe hgx1 hgx2 hg hG
          go_upto_region 13 with fail
          go_cut [138] from 69 to 138 (fun v138 wx => v138 = .bool false ∧ Below w1.heap.size w1 wx)
          case first =>
            obtain ⟨q1, q2, q3, q4⟩ := HQ.out
            obtain ⟨hy, hdd⟩ := hyb.out
            by_cases hcv : c + v < 0
            · obtain rfl : d = true := by rw [hdd]; exact decide_eq_true hcv
              obtain rfl : u = 0 := by omega
              obtain rfl : y = 0 := by omega
              have w2'' : IntKind.i64.wrap s2 = s3 := by rw [← w2']; congr 1; omega
              have hm : ¬ max v 0 < 0 := by omega
              have hx9 : wc.heap[gx]? = some (.cells (sA x 0 true 0) 43 (0, 0)) := hx
              clear hy hdd q1 q4 x0 x1 x2 x3 cX
              have cX := cellF hx9
              have x0 : (sA x 0 true 0)[0]? = some (.int .u32 x) := rfl
              have x1 : (sA x 0 true 0)[1]? = some (.int .i64 0) := rfl
              have x2 : (sA x 0 true 0)[2]? = some (.bool true) := rfl
              have x3 : (sA x 0 true 0)[3]? = some (.int .i64 0) := rfl
              go_wp2_with fail
              go_meet
              exact ⟨rfl, HBW.out⟩
            · obtain rfl : d = false := by rw [hdd]; exact decide_eq_false hcv
              have hyy : (y == c + v - (u : Int)) = true := by rw [beq_iff_eq]; omega
              have w4' : IntKind.i64.wrap (c + v - (u : Int)) = y := by rw [IntKind.wrap_i64]; omega
              have hm : ¬ max v 0 < (u : Int) := by omega
              have hy1 : ¬ y < 0 := by omega
              by_cases hu0 : 0 < u
              · have hf0 := q4 hu0
                have hui : 0 < (u : Int) := by omega
                clear hy hdd q1 q4 hyy
                subst hf0
                go_wp2_with fail
                go_meet
                exact ⟨rfl, HBW.out⟩
              · obtain rfl : u = 0 := by omega
                obtain rfl : y = c + v := by omega
                have hx9 : wc.heap[gx]? = some (.cells (sA x (c + v) false 0) 43 (0, 0)) := hx
                have hm : ¬ max v 0 < 0 := by omega
                clear hy hdd q1 q4 hyy x0 x1 x2 x3 cX
                have cX := cellF hx9
                have x0 : (sA x (c + v) false 0)[0]? = some (.int .u32 x) := rfl
                have x1 : (sA x (c + v) false 0)[1]? = some (.int .i64 (c + v)) := rfl
                have x2 : (sA x (c + v) false 0)[2]? = some (.bool false) := rfl
                have x3 : (sA x (c + v) false 0)[3]? = some (.int .i64 0) := rfl
                have w5' : IntKind.i64.wrap (c + v - 0) = c + v := by rw [IntKind.wrap_i64]; omega
                go_wp2_with fail
                go_meet
                exact ⟨rfl, HBW.out⟩
          case rest =>
            obtain ⟨rfl, hbz⟩ := hcut
            have HBZ := Lib.hid hbz
            clear hbz hd hx cD cX
            go_wp2_with fail
            go_roundg (n - (k + 1))
            case measure => omega
            case rel => exact ⟨k + 1, by omega, rfl, by go_num, by rw [HN1.out, HS1.out]; congr 1; omega, by rw [HN2.out, HS3.out, HS2.out]; congr 1; omega, HBZ.out⟩
      · obtain rfl : k = n := by omega
        have hall := HALL.out
        rw [← HF.out] at hall
        rw [hall]
        generalize f + sumZ (cashZ fund k C V) k = z at *
        clear hall
        go_wp2_with (first | (go_at_call 15; (with_reducible refine (known13 _).mono ?_); rintro e w5 ⟨rfl, hb5⟩))
        go_ret
        exact ⟨rfl, below_then HB1.out (below_then HX.out hb5)⟩
  · have HE := Lib.hid hE
    have hsf : sF fund n A C V = 0 := by unfold sF; rw [if_neg hE]
    obtain ⟨te, hte⟩ : ∃ te, te = sE fund n A C V := ⟨_, rfl⟩
    have hez : (te == 0) = false := by rw [beq_eq_false_iff_ne, hte]; exact hE
    rw [hsf, ← hte] at c1
    clear hE hte hsf
    go_enter Try.func8, Try.ntmps8
    go_wp2_with fail
    refine c1.mono ?_
    rintro e w1 ⟨⟨v, rfl, hv⟩, hb1⟩
    obtain rfl := hv.2 HE.out
    clear hv
    go_wp2_with (first | (go_at_call 15; (with_reducible refine (known13 _).mono ?_); rintro e w5 ⟨rfl, hb5⟩))
    go_ret
    exact ⟨rfl, below_then hb1 hb5⟩
theorem keep13_w (fund : Int) (a : Option Addr) (n cap : Nat) (A C V : Nat → Int) (W : World) (hf : F64 fund) (hb : ∀ i, (0 ≤ A i ∧ A i ≤ 4294967295) ∧ F64 (C i) ∧ F64 (V i)) (hA : Dues W a n A C V) (_ : n ≤ cap) (_ : cap ≤ 9223372036854775807) (_ : a = none → n = 0 ∧ cap = 0) :
    Calls Try.prog 8 #[.int .i64 fund, .slice a n cap] W fun e W' => e = .returned (.bool true) ∧ Below W.heap.size W W' := keep13_walk fund a n cap A C V W hf hb hA
end Go.Proofs.Yticdcdahehodkaa
