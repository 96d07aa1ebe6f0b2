/- SealedMore, walked: it returns true. Condition: the numbers fit their kinds. -/
import Derived.Test.YtoglcgijgckdaaaMoreP8
namespace Go.Proofs.Ytoglcgijgckdaaa
set_option linter.unusedVariables false
set_option linter.unusedSimpArgs false
open Go.RowKit

theorem min_le8 {a b c : Int} (h : b ≤ c) : min a b ≤ min a c := by omega
theorem more_price2 {sells : Bool} {Q : Int} {n k : Nat} {L : Nat → Array Value} {d t d' t' : Nat → Nat} {M : Array Value} (h : Auc sells Q n L d t) (h' : Auc sells Q (n + 1) (insR L k M) d' t') (hk : k ≤ n) (ha : sg (gv Q (vS L d)) (nf Q (vS L d) n) = Q) :
    if sells then prc L d (nf Q (vS L d) n) ≤ prc (insR L k M) d' (nf Q (vS (insR L k M) d') (n + 1)) else prc (insR L k M) d' (nf Q (vS (insR L k M) d') (n + 1)) ≤ prc L d (nf Q (vS L d) n) := by
  obtain ⟨c1, c2, c3⟩ := more_price h h' hk ha
  have e1 : prc L d (nf Q (vS L d) n) = N (L (d (nf Q (vS L d) n - 1))) 3 := by unfold prc; rw [if_neg (by omega)]
  have e2 : prc (insR L k M) d' (nf Q (vS (insR L k M) d') (n + 1)) = N (insR L k M (d' (nf Q (vS (insR L k M) d') (n + 1) - 1))) 3 := by unfold prc; rw [if_neg (by omega)]
  rw [e1, e2]
  unfold keyS at c3
  cases sells
  · simp only [Bool.false_eq_true, if_false] at c3 ⊢
    omega
  · simp only [if_true] at c3 ⊢
    omega
theorem own_empty8 (W : World) (e : TypeId) (c : Nat) {base : Nat} (hb : base ≤ W.heap.size) : (W.alloc (.cells #[] e)).ownsRow base e c (.slice (some ⟨W.heap.size, 0, none⟩) 0 0) 0 [] :=
  ⟨by simp, .inr ⟨W.heap.size, 0, #[], rfl, hb, heap_alloc_new _ _, Nat.le_refl _, by unfold maxLen; omega, by simp, by simp⟩⟩
theorem rowsC_of_T8 {w : World} {t : TypeId} {c n : Nat} {a : Option Addr} {L : Nat → Array Value} (h : RowsT w t c a n L) : RowsC w c a n L := fun i hi => by
  obtain ⟨g, off, A, fr, h1, h2, h3, h4⟩ := h i hi
  exact ⟨g, off, A, t, fr, h1, h2, h3, h4⟩
theorem rowsC_one {w : World} {c n : Nat} {a : Option Addr} {L : Nat → Array Value} (h : RowsC w c a n L) (hn : 0 < n) (hL : ∀ i, (L i).size = c) : ∃ g off B t fr, a = some (⟨g, off, none⟩ : Addr) ∧ w.heap[g]? = some (.cells B t fr) ∧ ∀ i, i < n → ∀ j, j < c → B[off + i * c + j]? = (L i)[j]? := by
  obtain ⟨g, off, B, t, fr, rfl, hg, _, _⟩ := h 0 hn
  refine ⟨g, off, B, t, fr, rfl, hg, fun i hi j hj => ?_⟩
  obtain ⟨g2, off2, B2, t2, fr2, ha, hg2, hs, hx⟩ := h i hi
  cases ha
  rw [hg] at hg2
  cases hg2
  rw [← hx, Array.getElem?_extract, if_pos (by omega)]
set_option maxRecDepth 100000 in
set_option maxHeartbeats 8000000 in
theorem more8_law (sells : Bool) (Q : Int) (ad : Option Addr) (n cap : Nat) (L : Nat → Array Value) (M : Array Value) (at_ : Int) (w : World) (hQ : F64 Q) (hL : ∀ i, IsOrd (L i)) (hR : RowsC w 5 ad n L) (hnc : n ≤ cap) (hcap : cap ≤ 9223372036854775807) (hz : ad = none → n = 0 ∧ cap = 0) (hM : IsOrd M) (hat : F64 at_) :
    Calls Try.prog 5 #[.bool sells, .int .i64 Q, .slice ad n cap, .agg M, .int .i64 at_] w fun e w' => e = .returned (.bool true) ∧ Below w.heap.size w w' := by
  have HR := Lib.hid hR
  have HL := Lib.hid hL
  have HQ := Lib.hid hQ
  have HMO := Lib.hid hM
  have hb0 := below_new w (Obj.cells M 31)
  clear hR hL hQ
  by_cases h50 : 50 ≤ n
  · have h50i : (50 : Int) ≤ n := by omega
    go_enter Try.func5, Try.ntmps5
    go_wp2_with ((go_at_call 7; (with_reducible refine (known08 _).mono ?_); rintro e w9 ⟨rfl, hb9⟩))
    go_ret
    exact ⟨rfl, below_then hb0 hb9⟩
  have h50i : ¬ (50 : Int) ≤ n := by omega
  obtain ⟨xx, hxx, hx0⟩ : ∃ xx, IntKind.u64.wrap at_ = xx ∧ 0 ≤ xx := ⟨_, rfl, by show 0 ≤ at_ % 18446744073709551616; omega⟩
  have hxn : IntKind.u64.wrap ((n : Int) + 1) = (n : Int) + 1 := by show ((n : Int) + 1) % 18446744073709551616 = (n : Int) + 1; omega
  obtain ⟨k, hkk, hk⟩ : ∃ k : Nat, xx % ((n : Int) + 1) = k ∧ k ≤ n := ⟨(xx % ((n : Int) + 1)).toNat, by have := Int.emod_nonneg xx (b := (n : Int) + 1) (by omega); omega, by have := Int.emod_nonneg xx (b := (n : Int) + 1) (by omega); have := Int.emod_lt_of_pos xx (b := (n : Int) + 1) (by omega); omega⟩
  have hkt : xx.tmod ((n : Int) + 1) = k := by rw [Int.tmod_eq_emod_of_nonneg hx0]; exact hkk
  have hj0 : ¬ (n : Int) + 1 = 0 := by omega
  have hwk : IntKind.i64.wrap (k : Int) = k := by rw [IntKind.wrap_i64]; omega
  have hkci : (k : Int) ≤ cap := by omega
  have hkni : (k : Int) ≤ n := by omega
  have hM0 := heap_alloc_new w (Obj.cells M 31)
  go_enter Try.func5, Try.ntmps5
  go_upto_region 4 with fail
  go_cut [12] from 35 to 46 (fun v wx => wx.ownsRow (w.heap.size + 1) 31 5 v (n + 1) (flat (insR L k M) (n + 1)) ∧ Below w.heap.size w wx)
  case rest =>
    obtain ⟨ho, hbc⟩ := hcut
    have HSR := Lib.hid (insR_ord (k := k) HL.out hM)
    obtain ⟨al, cl, rfl, hRl, _, _, hzl⟩ := own_rows (c := 5) (fun j => (HSR.out j).size) ho
    have c1 := clear_any sells Q ad n cap L wc HQ.out HL.out (HR.out.kept hbc) hz
    have C2 := Lib.hid (fun w1 (hb : Below wc.heap.size wc w1) => clear_any sells Q al (n + 1) cl (insR L k M) w1 HQ.out HSR.out ((rowsC_of_T8 hRl).kept hb) hzl)
    have HBC := Lib.hid hbc
    clear ho hbc hRl hzl hM0 hb0
    go_wp2_with (go_at_call 8; refine stop_at ?_)
    refine ⟨?_⟩
    refine c1.mono ?_
    rintro e w1 ⟨ho1, hb1⟩
    have c2 := C2.out w1 hb1
    have HB1 := Lib.hid hb1
    clear c1 C2 hb1
    rcases ho1 with ⟨h0, rfl⟩ | ⟨h0, d, fv, hp, hs, rfl, ho1⟩
    · generalize clE sells Q L n = E at *
      have h0b : (E == 0) = false := beq_eq_false_iff_ne.2 h0
      have h0c : (E != 0) = true := by simpa using h0
      go_wp2_with (go_at_call 8; refine stop_at ?_)
      refine ⟨?_⟩
      refine c2.mono ?_
      rintro e w2 ⟨ho2, hb2⟩
      have HB2 := Lib.hid hb2
      obtain ⟨q1, v2, q2, rfl⟩ : ∃ q1 v2 q2, e = .returned (.tuple #[.int .i64 q1, v2, .int .i64 q2]) := by
        rcases ho2 with ⟨_, rfl⟩ | ⟨_, _, _, _, _, rfl, _⟩ <;> exact ⟨_, _, _, rfl⟩
      clear ho2 c2 hb2
      go_wp2_with ((go_at_call 7; (with_reducible refine (known08 _).mono ?_); rintro e w9 ⟨rfl, hb9⟩))
      go_ret
      exact ⟨rfl, below_then (below_then (below_then HBC.out HB1.out) HB2.out) hb9⟩
    · obtain ⟨t, hA⟩ := auc_of h0 hp hs
      have HA := Lib.hid hA
      have HO1 := Lib.hid ho1
      obtain ⟨m, hm⟩ : ∃ m, m = nf Q (vS L d) n := ⟨_, rfl⟩
      obtain ⟨pv, hpv⟩ : ∃ pv, pv = prc L d m := ⟨_, rfl⟩
      have HM1 := Lib.hid hm
      have HPV := Lib.hid hpv
      rw [← hm] at HO1 ⊢
      rw [← hpv]
      clear hp hs hA ho1 h0 hm hpv
      go_wp2_with (go_at_call 8; refine stop_at ?_)
      refine ⟨?_⟩
      refine c2.mono ?_
      rintro e w2 ⟨⟨h2, rfl⟩ | ⟨h2, d', gv', hp', hs', rfl, ho2⟩, hb2⟩
      · have HB2 := Lib.hid hb2
        clear c2 hb2
        generalize clE sells Q (insR L k M) (n + 1) = E at *
        have h0b : (E == 0) = false := beq_eq_false_iff_ne.2 h2
        have h0c : (E != 0) = true := by simpa using h2
        go_wp2_with ((go_at_call 7; (with_reducible refine (known08 _).mono ?_); rintro e w9 ⟨rfl, hb9⟩))
        go_ret
        exact ⟨rfl, below_then (below_then (below_then HBC.out HB1.out) HB2.out) hb9⟩
      · obtain ⟨t', hA'⟩ := auc_of h2 hp' hs'
        have HA' := Lib.hid hA'
        obtain ⟨m', hm'⟩ : ∃ m, m = nf Q (vS (insR L k M) d') (n + 1) := ⟨_, rfl⟩
        obtain ⟨qv, hqv⟩ : ∃ pv, pv = prc (insR L k M) d' m' := ⟨_, rfl⟩
        have HM2 := Lib.hid hm'
        have HQV := Lib.hid hqv
        rw [← hm'] at ho2 ⊢
        rw [← hqv]
        have HB2 := Lib.hid hb2
        obtain ⟨fa, fc, rfl, hF, _⟩ := own_rows (c := 3) (fun j => fill_size _ _ _ j) (own_below hb2 HO1.out)
        obtain ⟨ga, gc, rfl, hG, _⟩ := own_rows (c := 3) (fun j => fill_size _ _ _ j) ho2
        have HF := Lib.hid (rowsC_of_T8 hF)
        have HG := Lib.hid (rowsC_of_T8 hG)
        have hmn : m ≤ n := by rw [HM1.out]; exact nf_le n
        have hmn' : m' ≤ n + 1 := by rw [HM2.out]; exact nf_le (n + 1)
        have q1 := HA.out.q1
        have q2 := HA.out.q2
        have HS1 := Lib.hid (fun j (hj : j ≤ m) => HA.out.fill_bd (k := j) (by rw [← HM1.out]; exact hj))
        have HS2 := Lib.hid (fun j (hj : j ≤ m') => HA'.out.fill_bd (k := j) (by rw [← HM2.out]; exact hj))
        have HE1 := Lib.hid HA.out.fills
        have HE2 := Lib.hid HA'.out.fills
        have HMP := Lib.hid (more_price2 HA.out HA'.out hk)
        have HIN := Lib.hid (show sg (fun i => N (L i) 4) n ≤ sg (fun i => N (insR L k M i) 4) (n + 1) from by
          have e := ins_sg (L := L) (k := k) (M := M) (fun A => N A 4) n hk
          have e2 : insR L k M k = M := by unfold insR; rw [if_neg (by omega), if_pos rfl]
          have := (HA'.out.bd (i := k) (by omega)).2
          rw [e2] at this
          omega)
        rw [← HM1.out] at HE1 HMP
        rw [← HM2.out] at HE2 HMP
        rw [← HQV.out, ← HPV.out] at HMP
        clear c2 hp' hs' hA' h2 ho2 hb2 hF hG hm' hqv HA HA' HO1
        generalize hgv1 : gv Q (vS L d) = G1 at *
        generalize hgv2 : gv Q (vS (insR L k M) d') = G2 at *
        have HGV1 := Lib.hid hgv1
        have HGV2 := Lib.hid hgv2
        clear hgv1 hgv2
        go_wp2
        go_loopg [19, 72] m (fun gh vs vi wx => ∃ j : Nat, j ≤ m ∧ gh = m - j ∧ vi = .int .i64 j ∧ vs = .int .i64 (sg G1 j) ∧ w2 = wx)
        case atStart => exact ⟨0, by omega, by omega, rfl, rfl, rfl⟩
        case round =>
          obtain ⟨j, hj, rfl, rfl, rfl, rfl⟩ := hrel
          by_cases hlt : j < m
          · have hlti : (j : Int) < (m : Int) := by omega
            obtain ⟨g1, o1, A1, t1, f1, ha, hg1, hcl1⟩ := rowsC_one HF.out (by omega) (fun i => fill_size _ _ _ i)
            subst ha
            have f2 := hcl1 j hlt 2 (by omega)
            rw [show (fillA Q L d j)[2]? = some (.int .i64 (gv Q (vS L d) j)) from rfl, HGV1.out] at f2
            have hc1 := cellF hg1
            have b1 := HS1.out j hj
            have b2 := HS1.out (j + 1) (by omega)
            have HNX := Lib.hid (show sg G1 (j + 1) = sg G1 j + G1 j from rfl)
            rw [HNX.out] at b2
            clear hcl1 hg1
            generalize sg G1 j = s1 at *
            generalize G1 j = gj at *
            go_wp2
            go_roundg (m - (j + 1))
            case measure => omega
            case rel => exact ⟨j + 1, by omega, rfl, by go_num, by rw [HNX.out], rfl⟩
          · obtain rfl : j = m := by omega
            have b0 := HS1.out j (Nat.le_refl _)
            clear HS1
            go_wp2
            go_loopg [20, 85] m' (fun gh vs vi wx => ∃ i : Nat, i ≤ m' ∧ gh = m' - i ∧ vi = .int .i64 i ∧ vs = .int .i64 (sg G2 i) ∧ w2 = wx)
            case atStart => exact ⟨0, by omega, by omega, rfl, rfl, rfl⟩
            case round =>
              obtain ⟨i, hi, rfl, rfl, rfl, rfl⟩ := hrel
              by_cases hlt2 : i < m'
              · have hlti : (i : Int) < (m' : Int) := by omega
                obtain ⟨g1, o1, A1, t1, f1, ha, hg1, hcl1⟩ := rowsC_one HG.out (by omega) (fun i => fill_size _ _ _ i)
                subst ha
                have f2 := hcl1 i hlt2 2 (by omega)
                rw [show (fillA Q (insR L k M) d' i)[2]? = some (.int .i64 (gv Q (vS (insR L k M) d') i)) from rfl, HGV2.out] at f2
                have hc1 := cellF hg1
                have b1 := HS2.out i hi
                have b2 := HS2.out (i + 1) (by omega)
                have HNX := Lib.hid (show sg G2 (i + 1) = sg G2 i + G2 i from rfl)
                rw [HNX.out] at b2
                clear hcl1 hg1
                generalize sg G2 i = s2 at *
                generalize G2 i = gi at *
                go_wp2
                go_roundg (m' - (i + 1))
                case measure => omega
                case rel => exact ⟨i + 1, by omega, rfl, by go_num, by rw [HNX.out], rfl⟩
              · obtain rfl : i = m' := by omega
                have e1 := HE1.out
                have e2 := HE2.out
                have e3 := HIN.out
                have hba : ¬ sg G2 i < sg G1 j := by rw [e1, e2]; have := min_le8 (a := Q) e3; omega
                have HPP := Lib.hid (show sg G1 j = Q → (if sells then pv ≤ qv else qv ≤ pv) from HMP.out)
                clear e1 e2 e3 HE1 HE2 HIN HMP HS2
                generalize sg G2 i = b at *
                generalize sg G1 j = a at *
                by_cases haq : a = Q
                · subst haq
                  have hpp := HPP.out rfl
                  clear HPP
                  cases sells
                  · have hpp : qv ≤ pv := hpp
                    go_wp2_with ((go_at_call 7; (with_reducible refine (known08 _).mono ?_); rintro e w9 ⟨rfl, hb9⟩))
                    go_ret
                    exact ⟨rfl, below_then (below_then (below_then HBC.out HB1.out) HB2.out) hb9⟩
                  · have hpp : pv ≤ qv := hpp
                    go_wp2_with ((go_at_call 7; (with_reducible refine (known08 _).mono ?_); rintro e w9 ⟨rfl, hb9⟩))
                    go_ret
                    exact ⟨rfl, below_then (below_then (below_then HBC.out HB1.out) HB2.out) hb9⟩
                · have haqb : (a == Q) = false := beq_eq_false_iff_ne.2 haq
                  clear HPP
                  go_wp2_with ((go_at_call 7; (with_reducible refine (known08 _).mono ?_); rintro e w9 ⟨rfl, hb9⟩))
                  go_ret
                  exact ⟨rfl, below_then (below_then (below_then HBC.out HB1.out) HB2.out) hb9⟩
  refine wp_region_held (S := fun wt => wt.heap[w.heap.size]? = some (.cells M 31 (0, 0))) (by kernel_rfl) ?_
  change wpAnyH _ _ _ _ _ _ _ _ (World.drew _)
  obtain ⟨wc, hwc⟩ : ∃ wc, wc = (w.alloc (Obj.cells M 31)).drew := ⟨_, rfl⟩
  have HS : wc.heap[w.heap.size]? = some (.cells M 31 (0, 0)) := by rw [hwc]; exact hM0
  have hbc : Below w.heap.size w wc := by rw [hwc]; exact Below.drew hb0
  have hzc : w.heap.size + 1 ≤ wc.heap.size := by rw [hwc]; simp [World.drew]
  rw [← hwc]
  clear hwc hM0 hb0 hxx hxn hkk hkt
  obtain ⟨adk, hadk⟩ : ∃ adk, adk = if cap = k then ad else ad.map (fun x => x.add (k * 5)) := ⟨_, rfl⟩
  (refine wpAnyH_take (i := 1) (v := ?_) rfl (by kernel_rfl) (by kernel_rfl) (by kernel_rfl) (fun _ _ _ h => h) (Or.inl ⟨by rfl, ?ht_1⟩) HS ?_); (case ht_1 => (intro wt hS; go_simp; try with_reducible rfl)); (try simp only [Act.put, List.getElem_toArray, List.getElem_cons_zero, List.getElem_cons_succ, List.setIfInBounds_toArray, List.set_cons_zero, List.set_cons_succ]); (refine wpAnyH_take (i := 2) (v := ?_) rfl (by kernel_rfl) (by kernel_rfl) (by kernel_rfl) (fun _ _ _ h => h) (Or.inl ⟨by rfl, ?ht_2⟩) HS ?_); (case ht_2 => (intro wt hS; go_simp; try with_reducible rfl)); (try simp only [Act.put, List.getElem_toArray, List.getElem_cons_zero, List.getElem_cons_succ, List.setIfInBounds_toArray, List.set_cons_zero, List.set_cons_succ]); (refine wpAnyH_take (i := 3) (v := ?_) rfl (by kernel_rfl) (by kernel_rfl) (by kernel_rfl) (fun _ _ _ h => h) (Or.inl ⟨by rfl, ?ht_3⟩) HS ?_); (case ht_3 => (intro wt hS; go_simp; try with_reducible rfl)); (try simp only [Act.put, List.getElem_toArray, List.getElem_cons_zero, List.getElem_cons_succ, List.setIfInBounds_toArray, List.set_cons_zero, List.set_cons_succ]); (refine wpAnyH_take (i := 8) (v := ?_) rfl (by kernel_rfl) (by kernel_rfl) (by kernel_rfl) (fun _ _ _ h => h) (Or.inl ⟨by rfl, ?ht_8⟩) HS ?_); (case ht_8 => (intro wt hS; go_simp; try with_reducible rfl)); (try simp only [Act.put, List.getElem_toArray, List.getElem_cons_zero, List.getElem_cons_succ, List.setIfInBounds_toArray, List.set_cons_zero, List.set_cons_succ]); (refine wpAnyH_take (i := 9) (v := ?_) rfl (by kernel_rfl) (by kernel_rfl) (by kernel_rfl) (fun _ _ _ h => h) (Or.inl ⟨by rfl, ?ht_9⟩) HS ?_); (case ht_9 => (intro wt hS; go_simp; try with_reducible rfl)); (try simp only [Act.put, List.getElem_toArray, List.getElem_cons_zero, List.getElem_cons_succ, List.setIfInBounds_toArray, List.set_cons_zero, List.set_cons_succ])
  (refine wpAnyH_take (i := 10) (v := .slice adk (n - k) (cap - k)) rfl (by kernel_rfl) (by kernel_rfl) (by kernel_rfl) (fun _ _ _ h => h) (Or.inl ⟨by rfl, ?ht_10⟩) HS ?_); (case ht_10 => (intro wt hS; (by_cases hkc : cap = k; (have h1 : n = k := by omega); (subst hkc; subst h1; rw [hadk, if_pos rfl]; go_simp); (rw [hadk, if_neg hkc]; go_simp); done))); (try simp only [Act.put, List.getElem_toArray, List.getElem_cons_zero, List.getElem_cons_succ, List.setIfInBounds_toArray, List.set_cons_zero, List.set_cons_succ])
  have HRK := Lib.hid (show ∀ wx, Below w.heap.size w wx → RowsC wx 5 ad k L from fun wx hb i hi => (HR.out.kept hb) i (by omega))
  have HRR := Lib.hid (show ∀ wx, Below w.heap.size w wx → RowsC wx 5 adk (n - k) (fun j => L (k + j)) from fun wx hb i hi => by
    obtain ⟨g, off, A, t, fr, ha, hg, hs, hx⟩ := (HR.out.kept hb) (k + i) (by omega)
    refine ⟨g, off + k * 5, A, t, fr, ?_, hg, by omega, (show A.extract (off + k * 5 + i * 5) (off + k * 5 + i * 5 + 5) = L (k + i) from by rw [← hx]; congr 1 <;> omega)⟩
    rw [hadk, if_neg (by omega), ha]
    simp [Addr.add])
  have HZ := Lib.hid (show ad = none → k = 0 ∧ cap = 0 from fun e => by have := hz e; omega)
  have HZK := Lib.hid (show adk = none → n - k = 0 ∧ cap - k = 0 from fun e => by
    rw [hadk] at e
    split at e
    · have := hz e; omega
    · cases ad with
      | none => have := hz rfl; omega
      | some a => cases e)
  have HZ0 := Lib.hid hz
  obtain ⟨bB, hbB0⟩ : ∃ b, b = w.heap.size + 1 := ⟨_, rfl⟩
  have HBB := Lib.hid hbB0
  have hbB : bB ≤ wc.heap.size := by omega
  have hwB : w.heap.size < bB := by omega
  clear hbB0 hadk hz hzc
  (refine wpAnyH_take (i := 5) (v := .agg M) rfl (by kernel_rfl) (by kernel_rfl) (by kernel_rfl) (fun _ _ _ h => h) (Or.inl ⟨by rfl, ?ht_5⟩) HS ?_); (case ht_5 => (intro wt hS; exact exec_load_part 31 _ rfl w.heap.size 0 (by rfl) _ M _ _ 5 hS Try.underlying31 rfl (by kernel_rfl) (by rw [HMO.out.size]; omega) M (extract_all HMO.out.size))); (try simp only [Act.put, List.getElem_toArray, List.getElem_cons_zero, List.getElem_cons_succ, List.setIfInBounds_toArray, List.set_cons_zero, List.set_cons_succ])
  obtain ⟨ip, zp, ip1, ip2, ip3, ip4, ip5⟩ := info_ord1
  refine wpAnyH_ready (rs := [0, 6]) (by kernel_rfl) (by decide) ?_
  refine AllReadyH.cons rfl (fun K' hK => ?_) (AllReadyH.cons rfl (fun K' hK => ?_) AllReadyH.nil)
  · rw [if_pos (by rfl)]
    go_simp
    refine hK.out _ _ (heap_up HS) (fun HS => ?_)
    clear hK K'
    (try simp only [Act.put, List.getElem_toArray, List.getElem_cons_zero, List.getElem_cons_succ, List.setIfInBounds_toArray, List.set_cons_zero, List.set_cons_succ])
    obtain ⟨gE, hgE⟩ : ∃ g, g = wc.heap.size := ⟨_, rfl⟩
    have HE := Lib.hid (show (wc.alloc (Obj.cells #[] 31)).ownsRow bB 31 5 (.slice (some ⟨gE, 0, none⟩) 0 0) 0 [] from by rw [hgE]; exact own_empty8 _ _ _ hbB)
    have HGE := Lib.hid (show bB ≤ gE from by omega)
    rw [← hgE]
    have hbc := below_alloc hbc (Obj.cells #[] 31)
    have hbB : bB ≤ (wc.alloc (Obj.cells #[] 31)).heap.size := by simp; omega
    clear hgE
    obtain ⟨wc, hwd⟩ : ∃ wd, wd = wc.alloc (Obj.cells #[] 31) := ⟨_, rfl⟩
    rw [← hwd] at HE HS hbc hbB ⊢
    clear hwd
    refine wpAnyH_ready (rs := [4, 6]) (by kernel_rfl) (by decide) ?_
    refine AllReadyH.cons rfl (fun K' hK => ?_) (AllReadyH.cons rfl (fun K' hK => ?_) AllReadyH.nil)
    · rw [if_pos (by rfl)]
      refine op_append_rows _ _ rfl bB _ 0 [] rfl HE.out ad k cap L HL.out rfl (HRK.out wc hbc) HZ.out (by omega) (by omega) hbB (fun vA we ho hg => ?_)
      refine hK.out _ _ ((hg.block w.heap.size (Array.getElem?_eq_some_iff.1 HS).1 (fun e => by injection e with e; have e : w.heap.size = gE := e; have := HGE.out; omega)).trans HS) (fun HS => ?_)
      clear hK K'
      (try simp only [Act.put, List.getElem_toArray, List.getElem_cons_zero, List.getElem_cons_succ, List.setIfInBounds_toArray, List.set_cons_zero, List.set_cons_succ])
      rw [Nat.zero_add, List.nil_append] at ho
      have HA := Lib.hid ho
      have hbc : Below w.heap.size w we := hbc.grown hg hbc.size (fun j e => by have e : gE = j := Option.some.inj e; have := HGE.out; omega)
      have hbB : bB ≤ we.heap.size := by have := hg.size; omega
      clear ho hg
      obtain ⟨wc, hwd⟩ : ∃ wd, wd = we := ⟨_, rfl⟩
      rw [← hwd] at HA HS hbc hbB ⊢
      clear hwd
      (refine wpAnyH_ready (rs := [6]) (by kernel_rfl) (by decide) ?_); (refine AllReadyH.cons rfl (fun K' hK => ?_) AllReadyH.nil); (rw [if_pos (by rfl)])
      refine op_slice1 22 31 _ rfl M 5 rfl HMO.out.size ip zp Try.underlying22 ip1 ip2 ip3 ip5 (by omega) (by omega) (hK.out _ _ (heap_up HS) (fun HS => ?_))
      clear hK K'
      (try simp only [Act.put, List.getElem_toArray, List.getElem_cons_zero, List.getElem_cons_succ, List.setIfInBounds_toArray, List.set_cons_zero, List.set_cons_succ])
      obtain ⟨gM, hgM⟩ : ∃ g, g = wc.heap.size := ⟨_, rfl⟩
      have HMS := Lib.hid (show (wc.alloc (Obj.cells M 31)).heap[gM]? = some (.cells M 31 (0, 0)) from by rw [hgM]; exact heap_alloc_new _ _)
      have HMLT := Lib.hid (show gM < (wc.alloc (Obj.cells M 31)).heap.size from by rw [hgM]; simp)
      have HA := Lib.hid (HA.out.alloc (Obj.cells M 31))
      rw [← hgM]
      have hbc := below_alloc hbc (Obj.cells M 31)
      have hbB : bB ≤ (wc.alloc (Obj.cells M 31)).heap.size := by simp; omega
      clear hgM
      obtain ⟨wc, hwd⟩ : ∃ wd, wd = wc.alloc (Obj.cells M 31) := ⟨_, rfl⟩
      rw [← hwd] at HMS HMLT HS hbc hbB ⊢
      rw [← hwd] at HA
      clear hwd
      (refine wpAnyH_ready (rs := [7]) (by kernel_rfl) (by decide) ?_); (refine AllReadyH.cons rfl (fun K' hK => ?_) AllReadyH.nil); (rw [if_pos (by rfl)])
      refine op_append_row1_at _ _ rfl Try.underlying22 info_ord1 (by omega) HMO.out.size HMO.out.all bB _ k _ rfl HA.out gM rfl HMS.out (by omega) hbB (fun vB we ho hg hat => ?_)
      refine hK.out _ _ ((hg.block w.heap.size (Array.getElem?_eq_some_iff.1 HS).1 (fun e => by have := (HA.out.lt _ e.symm).1; omega)).trans HS) (fun HS => ?_)
      clear hK K'
      (try simp only [Act.put, List.getElem_toArray, List.getElem_cons_zero, List.getElem_cons_succ, List.setIfInBounds_toArray, List.set_cons_zero, List.set_cons_succ])
      have hbc : Below w.heap.size w we := hbc.grown hg hbc.size (fun j e => by have := (HA.out.lt _ e).1; omega)
      have hbB : bB ≤ we.heap.size := by have := hg.size; omega
      have HB := Lib.hid ho
      clear ho hg hat
      (refine wpAnyH_ready (rs := [11]) (by kernel_rfl) (by decide) ?_); (refine AllReadyH.cons rfl (fun K' hK => ?_) AllReadyH.nil); (rw [if_pos (by rfl)])
      refine op_append_rows _ _ rfl bB _ (k + 1) _ rfl HB.out adk (n - k) (cap - k) (fun j => L (k + j)) (fun j => HL.out _) rfl (HRR.out we hbc) HZK.out (by omega) (by omega) hbB (fun vC wf ho hg => ?_)
      refine hK.out _ _ ((hg.block w.heap.size (Array.getElem?_eq_some_iff.1 HS).1 (fun e => by have := (HB.out.lt _ e.symm).1; omega)).trans HS) (fun HS => ?_)
      clear hK K'
      (try simp only [Act.put, List.getElem_toArray, List.getElem_cons_zero, List.getElem_cons_succ, List.setIfInBounds_toArray, List.set_cons_zero, List.set_cons_succ])
      have hbc : Below w.heap.size w wf := hbc.grown hg hbc.size (fun j e => by have := (HB.out.lt _ e).1; omega)
      rw [insR_flat L k n M hk, show k + 1 + (n - k) = n + 1 by omega] at ho
      (refine wpAnyH_take (i := 12) (v := ?_) rfl (by kernel_rfl) (by kernel_rfl) (by kernel_rfl) (fun _ _ _ h => h) (Or.inl ⟨by rfl, ?ht_12⟩) HS ?_); (case ht_12 => (intro wt hS; go_simp; try with_reducible rfl)); (try simp only [Act.put, List.getElem_toArray, List.getElem_cons_zero, List.getElem_cons_succ, List.setIfInBounds_toArray, List.set_cons_zero, List.set_cons_succ])
      refine wpAnyH_done (by kernel_rfl) ?_ _
      (try go_simp)
      go_wp2
      go_meet
      exact ⟨by rw [← HBB.out]; exact ho, hbc⟩
    · rw [if_pos (by rfl)]
      refine op_slice1 22 31 _ rfl M 5 rfl HMO.out.size ip zp Try.underlying22 ip1 ip2 ip3 ip5 (by omega) (by omega) (hK.out _ _ (heap_up HS) (fun HS => ?_))
      clear hK K'
      (try simp only [Act.put, List.getElem_toArray, List.getElem_cons_zero, List.getElem_cons_succ, List.setIfInBounds_toArray, List.set_cons_zero, List.set_cons_succ])
      obtain ⟨gM, hgM⟩ : ∃ g, g = wc.heap.size := ⟨_, rfl⟩
      have HMS := Lib.hid (show (wc.alloc (Obj.cells M 31)).heap[gM]? = some (.cells M 31 (0, 0)) from by rw [hgM]; exact heap_alloc_new _ _)
      have HMLT := Lib.hid (show gM < (wc.alloc (Obj.cells M 31)).heap.size from by rw [hgM]; simp)
      have HNE := Lib.hid (show gM ≠ gE from fun e => by have := (HE.out.lt gE rfl).2; omega)
      have HE := Lib.hid (HE.out.alloc (Obj.cells M 31))
      rw [← hgM]
      have hbc := below_alloc hbc (Obj.cells M 31)
      have hbB : bB ≤ (wc.alloc (Obj.cells M 31)).heap.size := by simp; omega
      clear hgM
      obtain ⟨wc, hwd⟩ : ∃ wd, wd = wc.alloc (Obj.cells M 31) := ⟨_, rfl⟩
      rw [← hwd] at HMS HMLT HS hbc hbB ⊢
      rw [← hwd] at HE
      clear hwd
      (refine wpAnyH_ready (rs := [4]) (by kernel_rfl) (by decide) ?_); (refine AllReadyH.cons rfl (fun K' hK => ?_) AllReadyH.nil); (rw [if_pos (by rfl)])
      refine op_append_rows _ _ rfl bB _ 0 [] rfl HE.out ad k cap L HL.out rfl (HRK.out wc hbc) HZ.out (by omega) (by omega) hbB (fun vA we ho hg => ?_)
      refine hK.out _ _ ((hg.block w.heap.size (Array.getElem?_eq_some_iff.1 HS).1 (fun e => by injection e with e; have e : w.heap.size = gE := e; have := HGE.out; omega)).trans HS) (fun HS => ?_)
      clear hK K'
      (try simp only [Act.put, List.getElem_toArray, List.getElem_cons_zero, List.getElem_cons_succ, List.setIfInBounds_toArray, List.set_cons_zero, List.set_cons_succ])
      rw [Nat.zero_add, List.nil_append] at ho
      have HA := Lib.hid ho
      have HMS := Lib.hid ((hg.block gM (Array.getElem?_eq_some_iff.1 HMS.out).1 (fun e => by injection e with e; have e : gM = gE := e; exact HNE.out e)).trans HMS.out)
      have hbc : Below w.heap.size w we := hbc.grown hg hbc.size (fun j e => by have e : gE = j := Option.some.inj e; have := HGE.out; omega)
      have hbB : bB ≤ we.heap.size := by have := hg.size; omega
      clear ho hg
      obtain ⟨wc, hwd⟩ : ∃ wd, wd = we := ⟨_, rfl⟩
      rw [← hwd] at HA HS hbc hbB ⊢
      rw [← hwd] at HMS
      clear hwd
      (refine wpAnyH_ready (rs := [7]) (by kernel_rfl) (by decide) ?_); (refine AllReadyH.cons rfl (fun K' hK => ?_) AllReadyH.nil); (rw [if_pos (by rfl)])
      refine op_append_row1_at _ _ rfl Try.underlying22 info_ord1 (by omega) HMO.out.size HMO.out.all bB _ k _ rfl HA.out gM rfl HMS.out (by omega) hbB (fun vB we ho hg hat => ?_)
      refine hK.out _ _ ((hg.block w.heap.size (Array.getElem?_eq_some_iff.1 HS).1 (fun e => by have := (HA.out.lt _ e.symm).1; omega)).trans HS) (fun HS => ?_)
      clear hK K'
      (try simp only [Act.put, List.getElem_toArray, List.getElem_cons_zero, List.getElem_cons_succ, List.setIfInBounds_toArray, List.set_cons_zero, List.set_cons_succ])
      have hbc : Below w.heap.size w we := hbc.grown hg hbc.size (fun j e => by have := (HA.out.lt _ e).1; omega)
      have hbB : bB ≤ we.heap.size := by have := hg.size; omega
      have HB := Lib.hid ho
      clear ho hg hat
      (refine wpAnyH_ready (rs := [11]) (by kernel_rfl) (by decide) ?_); (refine AllReadyH.cons rfl (fun K' hK => ?_) AllReadyH.nil); (rw [if_pos (by rfl)])
      refine op_append_rows _ _ rfl bB _ (k + 1) _ rfl HB.out adk (n - k) (cap - k) (fun j => L (k + j)) (fun j => HL.out _) rfl (HRR.out we hbc) HZK.out (by omega) (by omega) hbB (fun vC wf ho hg => ?_)
      refine hK.out _ _ ((hg.block w.heap.size (Array.getElem?_eq_some_iff.1 HS).1 (fun e => by have := (HB.out.lt _ e.symm).1; omega)).trans HS) (fun HS => ?_)
      clear hK K'
      (try simp only [Act.put, List.getElem_toArray, List.getElem_cons_zero, List.getElem_cons_succ, List.setIfInBounds_toArray, List.set_cons_zero, List.set_cons_succ])
      have hbc : Below w.heap.size w wf := hbc.grown hg hbc.size (fun j e => by have := (HB.out.lt _ e).1; omega)
      rw [insR_flat L k n M hk, show k + 1 + (n - k) = n + 1 by omega] at ho
      (refine wpAnyH_take (i := 12) (v := ?_) rfl (by kernel_rfl) (by kernel_rfl) (by kernel_rfl) (fun _ _ _ h => h) (Or.inl ⟨by rfl, ?ht_12⟩) HS ?_); (case ht_12 => (intro wt hS; go_simp; try with_reducible rfl)); (try simp only [Act.put, List.getElem_toArray, List.getElem_cons_zero, List.getElem_cons_succ, List.setIfInBounds_toArray, List.set_cons_zero, List.set_cons_succ])
      refine wpAnyH_done (by kernel_rfl) ?_ _
      (try go_simp)
      go_wp2
      go_meet
      exact ⟨by rw [← HBB.out]; exact ho, hbc⟩
  · rw [if_pos (by rfl)]
    refine op_slice1 22 31 _ rfl M 5 rfl HMO.out.size ip zp Try.underlying22 ip1 ip2 ip3 ip5 (by omega) (by omega) (hK.out _ _ (heap_up HS) (fun HS => ?_))
    clear hK K'
    (try simp only [Act.put, List.getElem_toArray, List.getElem_cons_zero, List.getElem_cons_succ, List.setIfInBounds_toArray, List.set_cons_zero, List.set_cons_succ])
    obtain ⟨gM, hgM⟩ : ∃ g, g = wc.heap.size := ⟨_, rfl⟩
    have HMS := Lib.hid (show (wc.alloc (Obj.cells M 31)).heap[gM]? = some (.cells M 31 (0, 0)) from by rw [hgM]; exact heap_alloc_new _ _)
    have HMLT := Lib.hid (show gM < (wc.alloc (Obj.cells M 31)).heap.size from by rw [hgM]; simp)
    rw [← hgM]
    have hbc := below_alloc hbc (Obj.cells M 31)
    have hbB : bB ≤ (wc.alloc (Obj.cells M 31)).heap.size := by simp; omega
    clear hgM
    obtain ⟨wc, hwd⟩ : ∃ wd, wd = wc.alloc (Obj.cells M 31) := ⟨_, rfl⟩
    rw [← hwd] at HMS HMLT HS hbc hbB ⊢
    clear hwd
    (refine wpAnyH_ready (rs := [0]) (by kernel_rfl) (by decide) ?_); (refine AllReadyH.cons rfl (fun K' hK => ?_) AllReadyH.nil); (rw [if_pos (by rfl)])
    go_simp
    refine hK.out _ _ (heap_up HS) (fun HS => ?_)
    clear hK K'
    (try simp only [Act.put, List.getElem_toArray, List.getElem_cons_zero, List.getElem_cons_succ, List.setIfInBounds_toArray, List.set_cons_zero, List.set_cons_succ])
    obtain ⟨gE, hgE⟩ : ∃ g, g = wc.heap.size := ⟨_, rfl⟩
    have HE := Lib.hid (show (wc.alloc (Obj.cells #[] 31)).ownsRow bB 31 5 (.slice (some ⟨gE, 0, none⟩) 0 0) 0 [] from by rw [hgE]; exact own_empty8 _ _ _ hbB)
    have HGE := Lib.hid (show bB ≤ gE from by omega)
    rw [← hgE]
    have HMS := Lib.hid (heap_up (o := Obj.cells #[] 31) HMS.out)
    have HNE := Lib.hid (show gM ≠ gE from fun e => by have := HMLT.out; omega)
    have hbc := below_alloc hbc (Obj.cells #[] 31)
    have hbB : bB ≤ (wc.alloc (Obj.cells #[] 31)).heap.size := by simp; omega
    clear hgE
    obtain ⟨wc, hwd⟩ : ∃ wd, wd = wc.alloc (Obj.cells #[] 31) := ⟨_, rfl⟩
    rw [← hwd] at HE HS hbc hbB ⊢
    rw [← hwd] at HMS
    clear hwd
    (refine wpAnyH_ready (rs := [4]) (by kernel_rfl) (by decide) ?_); (refine AllReadyH.cons rfl (fun K' hK => ?_) AllReadyH.nil); (rw [if_pos (by rfl)])
    refine op_append_rows _ _ rfl bB _ 0 [] rfl HE.out ad k cap L HL.out rfl (HRK.out wc hbc) HZ.out (by omega) (by omega) hbB (fun vA we ho hg => ?_)
    refine hK.out _ _ ((hg.block w.heap.size (Array.getElem?_eq_some_iff.1 HS).1 (fun e => by injection e with e; have e : w.heap.size = gE := e; have := HGE.out; omega)).trans HS) (fun HS => ?_)
    clear hK K'
    (try simp only [Act.put, List.getElem_toArray, List.getElem_cons_zero, List.getElem_cons_succ, List.setIfInBounds_toArray, List.set_cons_zero, List.set_cons_succ])
    rw [Nat.zero_add, List.nil_append] at ho
    have HA := Lib.hid ho
    have HMS := Lib.hid ((hg.block gM (Array.getElem?_eq_some_iff.1 HMS.out).1 (fun e => by injection e with e; have e : gM = gE := e; exact HNE.out e)).trans HMS.out)
    have hbc : Below w.heap.size w we := hbc.grown hg hbc.size (fun j e => by have e : gE = j := Option.some.inj e; have := HGE.out; omega)
    have hbB : bB ≤ we.heap.size := by have := hg.size; omega
    clear ho hg
    obtain ⟨wc, hwd⟩ : ∃ wd, wd = we := ⟨_, rfl⟩
    rw [← hwd] at HA HS hbc hbB ⊢
    rw [← hwd] at HMS
    clear hwd
    (refine wpAnyH_ready (rs := [7]) (by kernel_rfl) (by decide) ?_); (refine AllReadyH.cons rfl (fun K' hK => ?_) AllReadyH.nil); (rw [if_pos (by rfl)])
    refine op_append_row1_at _ _ rfl Try.underlying22 info_ord1 (by omega) HMO.out.size HMO.out.all bB _ k _ rfl HA.out gM rfl HMS.out (by omega) hbB (fun vB we ho hg hat => ?_)
    refine hK.out _ _ ((hg.block w.heap.size (Array.getElem?_eq_some_iff.1 HS).1 (fun e => by have := (HA.out.lt _ e.symm).1; omega)).trans HS) (fun HS => ?_)
    clear hK K'
    (try simp only [Act.put, List.getElem_toArray, List.getElem_cons_zero, List.getElem_cons_succ, List.setIfInBounds_toArray, List.set_cons_zero, List.set_cons_succ])
    have hbc : Below w.heap.size w we := hbc.grown hg hbc.size (fun j e => by have := (HA.out.lt _ e).1; omega)
    have hbB : bB ≤ we.heap.size := by have := hg.size; omega
    have HB := Lib.hid ho
    clear ho hg hat
    (refine wpAnyH_ready (rs := [11]) (by kernel_rfl) (by decide) ?_); (refine AllReadyH.cons rfl (fun K' hK => ?_) AllReadyH.nil); (rw [if_pos (by rfl)])
    refine op_append_rows _ _ rfl bB _ (k + 1) _ rfl HB.out adk (n - k) (cap - k) (fun j => L (k + j)) (fun j => HL.out _) rfl (HRR.out we hbc) HZK.out (by omega) (by omega) hbB (fun vC wf ho hg => ?_)
    refine hK.out _ _ ((hg.block w.heap.size (Array.getElem?_eq_some_iff.1 HS).1 (fun e => by have := (HB.out.lt _ e.symm).1; omega)).trans HS) (fun HS => ?_)
    clear hK K'
    (try simp only [Act.put, List.getElem_toArray, List.getElem_cons_zero, List.getElem_cons_succ, List.setIfInBounds_toArray, List.set_cons_zero, List.set_cons_succ])
    have hbc : Below w.heap.size w wf := hbc.grown hg hbc.size (fun j e => by have := (HB.out.lt _ e).1; omega)
    rw [insR_flat L k n M hk, show k + 1 + (n - k) = n + 1 by omega] at ho
    (refine wpAnyH_take (i := 12) (v := ?_) rfl (by kernel_rfl) (by kernel_rfl) (by kernel_rfl) (fun _ _ _ h => h) (Or.inl ⟨by rfl, ?ht_12⟩) HS ?_); (case ht_12 => (intro wt hS; go_simp; try with_reducible rfl)); (try simp only [Act.put, List.getElem_toArray, List.getElem_cons_zero, List.getElem_cons_succ, List.setIfInBounds_toArray, List.set_cons_zero, List.set_cons_succ])
    refine wpAnyH_done (by kernel_rfl) ?_ _
    (try go_simp)
    go_wp2
    go_meet
    exact ⟨by rw [← HBB.out]; exact ho, hbc⟩
end Go.Proofs.Ytoglcgijgckdaaa
