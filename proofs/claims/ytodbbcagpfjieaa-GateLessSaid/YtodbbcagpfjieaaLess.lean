/- GateLess: the walk. No condition. -/
import Derived.Test.YtodbbcagpfjieaaGateLaw
namespace Go.Proofs.Ytodbbcagpfjieaa
open Go.RowKit

set_option maxHeartbeats 1000000 in
theorem less_other (G : Array Value) (a b : Int) (w : World) (h : Rowk gateKs G) (h0 : (gchk G == 0) = false) (h1 : (gchk G == 125) = false) :
    Calls Try.prog 3 #[.agg G, .int .i64 a, .int .i64 b] w fun e w' => e = .returned (.bool true) ∧ Below w.heap.size w w' := by
  have HS := Lib.hid (show G.size = 37 from h.1)
  go_enter Try.func3, Try.ntmps3
  go_wp2_with (first | ((with_reducible refine at_load 32 ?_); refine wpList_load_part rfl 32 _ rfl (w.heap.size) 0 rfl 32 (G) (0, 0) _ 37 (by repeat (first | exact heap_new (by simp; done) | refine heap_up ?_)) Try.underlying32 rfl (by kernel_rfl) (by rw [HS.out]; omega) (G) (extract_all HS.out) ?_) | (go_at_call 12; (with_reducible refine (check_any _ _ (isGate_of h)).mono ?_); rintro e w1 ⟨rfl, hb⟩) | (go_at_call 13; (with_reducible refine (known12 _).mono ?_); rintro e w2 ⟨rfl, hb2⟩))
  go_ret
  exact ⟨rfl, below_then (below_then (below_new _ _) hb) hb2⟩

/-- what passes -/
theorem gchk_zero {G : Array Value} (h : gchk G = 0) : Bo G 30 = false ∧ Bo G 29 = false ∧ N G 25 = 1 ∧ sB (G.extract 0 25) G = true ∧ iqB (G.extract 0 25) (N G 36) = true ∧ ipB (G.extract 0 25) (N G 35) = true ∧ ibB (G.extract 0 25) (N G 26) (N G 35) = true ∧ farB G = false := by
  unfold gchk gchkS at h
  repeat' split at h
  all_goals first | (exfalso; omega) | skip
  rename_i h1 h2 h3 h4 h5 h6 h7 h8 h9
  have hs : sB (G.extract 0 25) G = true := by simpa using h5
  have h25 : N G 25 = 1 := by simp [sB] at hs; exact hs.1.1.1.1
  exact ⟨by simpa using h1, by simpa using h2, h25, hs, by simpa using h6, by simpa using h7, by simpa using h8, by simpa using h9⟩

theorem sums_set5 (S : Array Value) (v : Value) (hs : 5 < S.size) (n : Nat) : shTo (S.setIfInBounds 5 v) n = shTo S n ∧ upTo (S.setIfInBounds 5 v) n = upTo S n ∧ dnTo (S.setIfInBounds 5 v) n = dnTo S n := by
  induction n with
  | zero => exact ⟨rfl, rfl, rfl⟩
  | succ n ih =>
    have e : N (S.setIfInBounds 5 v) (6 + n) = N S (6 + n) := by rw [N_set hs, if_neg (by omega)]
    simp only [shTo, upTo, dnTo, ih.1, ih.2.1, ih.2.2, e, and_self]
theorem mayB_set5 (S : Array Value) (hs : 5 < S.size) (h : mayB S = true) : mayB (S.setIfInBounds 5 (.int .i64 10000000)) = true := by
  obtain ⟨e1, e2, e3⟩ := sums_set5 S (.int .i64 10000000) hs 16
  have e : ∀ j, j ≠ 5 → N (S.setIfInBounds 5 (.int .i64 10000000)) j = N S j := fun j hj => by rw [N_set hs, if_neg (by omega)]
  have e5 : N (S.setIfInBounds 5 (.int .i64 10000000)) 5 = 10000000 := by rw [N_set hs, if_pos rfl]
  simp only [mayB, Bool.and_eq_true] at h ⊢
  rw [e1, e2, e3, e 0 (by omega), e 1 (by omega), e 2 (by omega), e 3 (by omega), e 4 (by omega), e 22 (by omega), e 24 (by omega), e5]
  obtain ⟨⟨⟨⟨⟨⟨⟨⟨⟨⟨p1, p2⟩, p3⟩, p4⟩, p5⟩, p6⟩, p7⟩, p8⟩, _⟩, p10⟩, p11⟩ := h
  exact ⟨⟨⟨⟨⟨⟨⟨⟨⟨⟨p1, p2⟩, p3⟩, p4⟩, p5⟩, p6⟩, p7⟩, p8⟩, by decide⟩, p10⟩, p11⟩

theorem gchk_less {G : Array Value} (hs : G.size = 37) (h : gchk G = 0) (x y : Int) (hx : 0 ≤ x ∧ x ≤ N G 32) (hy : 0 ≤ y ∧ y ≤ N G 33) :
    gchk (((G.setIfInBounds 32 (.int .i64 x)).setIfInBounds 33 (.int .i64 y)).setIfInBounds 35 (.int .i64 (N G 26))) = 0 := by
  obtain ⟨k1, k2, k3, k4, k5, k6, k7, k8⟩ := gchk_zero h
  obtain ⟨L, hL⟩ : ∃ L, ((G.setIfInBounds 32 (.int .i64 x)).setIfInBounds 33 (.int .i64 y)).setIfInBounds 35 (.int .i64 (N G 26)) = L := ⟨_, rfl⟩
  have eN : ∀ j, j ≠ 32 → j ≠ 33 → j ≠ 35 → N L j = N G j := fun j h1 h2 h3 => by
    rw [← hL, N_set (by simp; omega), if_neg (by omega), N_set (by simp; omega), if_neg (by omega), N_set (by omega), if_neg (by omega)]
  have eB : ∀ j, j ≠ 32 → j ≠ 33 → j ≠ 35 → Bo L j = Bo G j := fun j h1 h2 h3 => by
    rw [← hL, Bo_set (by simp; omega), if_neg (by omega), Bo_set (by simp; omega), if_neg (by omega), Bo_set (by omega), if_neg (by omega)]
  have e32 : N L 32 = x := by rw [← hL, N_set (by simp; omega), if_neg (by omega), N_set (by simp; omega), if_neg (by omega), N_set (by omega), if_pos rfl]
  have e33 : N L 33 = y := by rw [← hL, N_set (by simp; omega), if_neg (by omega), N_set (by simp; omega), if_pos rfl]
  have e35 : N L 35 = N G 26 := by rw [← hL, N_set (by simp; omega), if_pos rfl]
  have eS : L.extract 0 25 = G.extract 0 25 := by rw [← hL, extract_set_out (by omega), extract_set_out (by omega), extract_set_out (by omega)]
  rw [hL]
  have k4' := k4
  simp only [sB, Bool.and_eq_true] at k4'
  obtain ⟨⟨⟨⟨_, p1⟩, p2⟩, p3⟩, p4⟩ := k4'
  have b2 := inB_iff.1 p2
  have b3 := inB_iff.1 p3
  have hm : mayB (G.extract 0 25) = true := by simp [ipB] at p1; exact p1.1
  have hb := (mayB_facts hm).2.2.1
  have h1 : sB (L.extract 0 25) L = true := by
    simp only [sB, Bool.and_eq_true]
    rw [eS, eN 25 (by omega) (by omega) (by omega), eN 26 (by omega) (by omega) (by omega), e32, e33, eN 31 (by omega) (by omega) (by omega)]
    exact ⟨⟨⟨⟨by simp [k3], p1⟩, inB_iff.2 ⟨by omega, by omega⟩⟩, inB_iff.2 ⟨by omega, by omega⟩⟩, p4⟩
  have h2 : ibB (G.extract 0 25) (N G 26) (N G 26) = true := by
    simp only [ibB, hm, Bool.true_and]
    exact inB_iff.2 ⟨by omega, by omega⟩
  have h3 : farB L = false := by
    unfold farB at k8 ⊢
    rw [eB 34 (by omega) (by omega) (by omega), eN 5 (by omega) (by omega) (by omega), eN 31 (by omega) (by omega) (by omega), eN 36 (by omega) (by omega) (by omega), e32, e33]
    cases hbuy : Bo G 34 <;> simp [hbuy] at k8 ⊢ <;> omega
  unfold gchk gchkS
  rw [eB 30 (by omega) (by omega) (by omega), eB 29 (by omega) (by omega) (by omega), h1, eS, eN 25 (by omega) (by omega) (by omega), eN 36 (by omega) (by omega) (by omega), eN 26 (by omega) (by omega) (by omega), e35, k1, k2, k3, k5, p1, h2, h3]
  rfl

theorem gchk_lim {G : Array Value} (h : gchk G = 125) : Bo G 30 = false ∧ Bo G 29 = false ∧ N G 25 = 1 ∧ sB (G.extract 0 25) G = true ∧ iqB (G.extract 0 25) (N G 36) = true ∧ ipB (G.extract 0 25) (N G 35) = true ∧ ibB (G.extract 0 25) (N G 26) (N G 35) = true := by
  unfold gchk gchkS at h
  repeat' split at h
  all_goals first | (exfalso; omega) | skip
  rename_i h1 h2 h3 h4 h5 h6 h7 h8 h9
  have hs : sB (G.extract 0 25) G = true := by simpa using h5
  have h25 : N G 25 = 1 := by simp [sB] at hs; exact hs.1.1.1.1
  exact ⟨by simpa using h1, by simpa using h2, h25, hs, by simpa using h6, by simpa using h7, by simpa using h8⟩

/-- too far even for the greatest Limit? -/
def farM (G : Array Value) : Bool := if Bo G 34 then decide (10000000 < N G 31 + N G 32 + N G 36) else decide (N G 31 - N G 33 - N G 36 < -10000000)
theorem gchk_most {G : Array Value} (hs : G.size = 37) (h : gchk G = 125) : gchk (G.setIfInBounds 5 (.int .i64 10000000)) = if farM G then 125 else 0 := by
  obtain ⟨k1, k2, k3, k4, k5, k6, k7⟩ := gchk_lim h
  obtain ⟨L, hL⟩ : ∃ L, G.setIfInBounds 5 (.int .i64 10000000) = L := ⟨_, rfl⟩
  have eN : ∀ j, j ≠ 5 → N L j = N G j := fun j h1 => by rw [← hL, N_set (by omega), if_neg (by omega)]
  have eB : ∀ j, j ≠ 5 → Bo L j = Bo G j := fun j h1 => by rw [← hL, Bo_set (by omega), if_neg (by omega)]
  have e5 : N L 5 = 10000000 := by rw [← hL, N_set (by omega), if_pos rfl]
  have hS : (G.extract 0 25).size = 25 := by simp [hs]
  have eS : L.extract 0 25 = (G.extract 0 25).setIfInBounds 5 (.int .i64 10000000) := by rw [← hL, extract_set_in (by omega) (by omega) (by omega)]
  have hm : mayB (G.extract 0 25) = true := by simp [ipB] at k6; exact k6.1
  have hm' : mayB (L.extract 0 25) = true := by rw [eS]; exact mayB_set5 _ (by omega) hm
  have eSN : ∀ j, j ≠ 5 → N (L.extract 0 25) j = N (G.extract 0 25) j := fun j hj => by rw [eS, N_set (by omega), if_neg (by omega)]
  have q1 : ∀ n, ipB (L.extract 0 25) n = ipB (G.extract 0 25) n := fun n => by simp only [ipB, hm, hm', eSN 2 (by omega)]
  have q2 : ∀ n, iqB (L.extract 0 25) n = iqB (G.extract 0 25) n := fun n => by simp only [iqB, hm, hm', eSN 3 (by omega)]
  have q3 : ∀ a n, ibB (L.extract 0 25) a n = ibB (G.extract 0 25) a n := fun a n => by simp only [ibB, hm, hm', eSN 4 (by omega)]
  rw [hL]
  have h1 : sB (L.extract 0 25) L = true := by
    rw [← k4]
    simp only [sB]
    rw [q1, eN 25 (by omega), eN 26 (by omega), eN 31 (by omega), eN 32 (by omega), eN 33 (by omega)]
  have h3 : farB L = farM G := by
    unfold farB farM
    rw [eB 34 (by omega), e5, eN 31 (by omega), eN 32 (by omega), eN 33 (by omega), eN 36 (by omega)]
  unfold gchk gchkS
  rw [h1, q1, q2, q3, eB 30 (by omega), eB 29 (by omega), eN 25 (by omega), eN 26 (by omega), eN 35 (by omega), eN 36 (by omega), h3, k1, k2, k3, k5, k6, k7]
  rfl

theorem mod_any (a m : Int) (hm : 0 ≤ m ∧ m ≤ 1000000000) : 0 ≤ wrap64 ((IntKind.u64.wrap a).tmod (m + 1)) ∧ wrap64 ((IntKind.u64.wrap a).tmod (m + 1)) ≤ m := by
  have h0 : 0 ≤ IntKind.u64.wrap a := by rw [IntKind.wrap_u64]; omega
  have h1 := Int.tmod_nonneg (m + 1) h0
  have h2 := Int.tmod_lt_of_pos (IntKind.u64.wrap a) (show 0 < m + 1 by omega)
  rw [IntWalk.wrap64_in _ ⟨by omega, by omega⟩]
  omega

set_option maxHeartbeats 1000000 in
theorem less_ok (G : Array Value) (a b : Int) (w : World) (h : Rowk gateKs G) (h0 : gchk G = 0) :
    Calls Try.prog 3 #[.agg G, .int .i64 a, .int .i64 b] w fun e w' => e = .returned (.bool true) ∧ Below w.heap.size w w' := by
  have hsz : G.size = 37 := h.1
  have HS := Lib.hid hsz
  have g := isGate_of h
  obtain ⟨k1, k2, k3, k4, k5, k6, k7, k8⟩ := gchk_zero h0
  simp only [sB, Bool.and_eq_true] at k4
  obtain ⟨b1, b2⟩ := inB_iff.1 k4.1.1.2
  obtain ⟨s1, s2⟩ := inB_iff.1 k4.1.2
  have a32 := g.buys.1
  have a33 := g.sells.1
  have a26 := g.price.1
  have a35 := g.pr.1
  clear k1 k2 k3 k4 k5 k6 k7 k8
  have x1 := mod_any a (N G 32) ⟨b1, b2⟩
  have y1 := mod_any b (N G 33) ⟨s1, s2⟩
  have hl := gchk_less hsz h0 _ _ x1 y1
  have hlr : Rowk gateKs (((G.setIfInBounds 32 (.int .i64 (wrap64 ((IntKind.u64.wrap a).tmod (N G 32 + 1))))).setIfInBounds 33 (.int .i64 (wrap64 ((IntKind.u64.wrap b).tmod (N G 33 + 1))))).setIfInBounds 35 (.int .i64 (N G 26))) :=
    ((h.set rfl (fit_i64 ⟨by omega, by omega⟩)).set rfl (fit_i64 ⟨by omega, by omega⟩)).set rfl (fit_i64 g.price.2)
  obtain ⟨L, hL⟩ : ∃ L, ((G.setIfInBounds 32 (.int .i64 (wrap64 ((IntKind.u64.wrap a).tmod (N G 32 + 1))))).setIfInBounds 33 (.int .i64 (wrap64 ((IntKind.u64.wrap b).tmod (N G 33 + 1))))).setIfInBounds 35 (.int .i64 (N G 26)) = L := ⟨_, rfl⟩
  rw [hL] at hl hlr
  have HL := Lib.hid hL
  have Hl := Lib.hid hl
  have HLs := Lib.hid (show L.size = 37 from hlr.1)
  have H0 := Lib.hid h0
  clear h0 hL hl x1 y1 hsz
  go_enter Try.func3, Try.ntmps3
  go_wp2_with (first | ((with_reducible refine at_load 32 ?_); refine wpList_load_part rfl 32 _ rfl (w.heap.size) 0 rfl 32 (G) (0, 0) _ 37 (by first | exact hg1 | exact heap_new rfl) Try.underlying32 rfl (by kernel_rfl) (by rw [HS.out]; omega) (G) (extract_all HS.out) ?_) | ((with_reducible refine at_store 32 ?_); refine wpList_store_new rfl 32 _ _ rfl (G) _ _ _ rfl (by simp) rfl (by rw [HS.out]; kernel_rfl) (by rw [HS.out]; rfl) (h.one) ?_) | ((with_reducible refine at_load 32 ?_); refine wpList_load_part rfl 32 _ rfl (w1.heap.size) 0 rfl 32 (L) (0, 0) _ 37 (by rw [← HL.out]; exact heap_new rfl) Try.underlying32 rfl (by kernel_rfl) (by rw [HLs.out]; omega) (L) (extract_all HLs.out) ?_) | (go_at_call 12; (with_reducible refine (check_any G _ (isGate_of h)).mono ?_); rintro e w1 ⟨rfl, hb⟩; rw [H0.out]; have hg1 := kept hb (heap_alloc_new _ _); have hc1 := (cells_of hg1).1; have hs1 := (cells_of hg1).2.2))
  refine (check_any L _ (isGate_of hlr)).mono ?_
  rintro e w2 ⟨rfl, hb2⟩
  rw [Hl.out]
  have hB := below_then (below_alloc (below_then (below_new _ _) hb) _) hb2
  clear hb hb2 hg1 hc1 hs1
  go_wp2_with fail
  refine (known12 _).mono ?_
  rintro e w3 ⟨rfl, hb⟩
  have hB := below_then hB hb
  clear hb
  go_wp2
  go_ret
  exact ⟨rfl, hB⟩

set_option maxHeartbeats 1000000 in
theorem less_lim (G : Array Value) (a b : Int) (w : World) (h : Rowk gateKs G) (h0 : gchk G = 125) :
    Calls Try.prog 3 #[.agg G, .int .i64 a, .int .i64 b] w fun e w' => e = .returned (.bool true) ∧ Below w.heap.size w w' := by
  have hsz : G.size = 37 := h.1
  have HS := Lib.hid hsz
  have g := isGate_of h
  obtain ⟨k1, k2, k3, k4, k5, k6, k7⟩ := gchk_lim h0
  simp only [sB, Bool.and_eq_true] at k4
  obtain ⟨b1, b2⟩ := inB_iff.1 k4.1.1.2
  obtain ⟨s1, s2⟩ := inB_iff.1 k4.1.2
  obtain ⟨q1, q2⟩ := inB_iff.1 k4.2
  have ky : inB (N G 36) 1 1000000 = true := by simp [iqB] at k5; exact k5.1.2
  obtain ⟨y1, y2⟩ := inB_iff.1 ky
  have a5 := g.limit.1
  have a31 := g.q.1
  have a32 := g.buys.1
  have a33 := g.sells.1
  have a34 := g.buy
  unfold IsB at a34
  have a36 := g.qty.1
  clear k1 k2 k3 k4 k5 k6 k7 ky
  have hl := gchk_most hsz h0
  have hlr : Rowk gateKs (G.setIfInBounds 5 (.int .i64 10000000)) := h.set rfl (fit_i64 ⟨by omega, by omega⟩)
  obtain ⟨L, hL⟩ : ∃ L, G.setIfInBounds 5 (.int .i64 10000000) = L := ⟨_, rfl⟩
  rw [hL] at hl hlr
  have HL := Lib.hid hL
  have HLs := Lib.hid (show L.size = 37 from hlr.1)
  have H0 := Lib.hid h0
  clear h0 hL hsz
  unfold farM at hl
  cases hbuy : Bo G 34
  · by_cases hf : N G 31 - N G 33 - N G 36 < -10000000
    · have Hl : Hid (gchk L = 125) := Lib.hid (by rw [hl]; simp [hbuy, hf])
      clear hl
      go_enter Try.func3, Try.ntmps3
      go_wp2_with (first | ((with_reducible refine at_load 32 ?_); refine wpList_load_part rfl 32 _ rfl (w.heap.size) 0 rfl 32 (G) (0, 0) _ 37 (by first | exact hg1 | exact heap_new rfl) Try.underlying32 rfl (by kernel_rfl) (by rw [HS.out]; omega) (G) (extract_all HS.out) ?_) | ((with_reducible refine at_store 32 ?_); refine wpList_store_new rfl 32 _ _ rfl (G) _ _ _ rfl (by simp) rfl (by rw [HS.out]; kernel_rfl) (by rw [HS.out]; rfl) (h.one) ?_) | ((with_reducible refine at_load 32 ?_); refine wpList_load_part rfl 32 _ rfl (w1.heap.size) 0 rfl 32 (L) (0, 0) _ 37 (by rw [← HL.out]; exact heap_new rfl) Try.underlying32 rfl (by kernel_rfl) (by rw [HLs.out]; omega) (L) (extract_all HLs.out) ?_) | (go_at_call 12; (with_reducible refine (check_any G _ (isGate_of h)).mono ?_); rintro e w1 ⟨rfl, hb⟩; rw [H0.out]; have hg1 := kept hb (heap_alloc_new _ _); have hc1 := (cells_of hg1).1; have hs1 := (cells_of hg1).2.2))
      refine (check_any L _ (isGate_of hlr)).mono ?_
      rintro e w2 ⟨rfl, hb2⟩
      rw [Hl.out]
      have hB := below_then (below_alloc (below_then (below_new _ _) hb) _) hb2
      have hg2 := kept hb2 (heap_up hg1)
      have hc2 := (cells_of hg2).1
      clear hb hb2 hg1 hc1 hs1 hg2
      go_wp2_with fail
      refine (known12 _).mono ?_
      rintro e w3 ⟨rfl, hb⟩
      have hB := below_then hB hb
      clear hb
      go_wp2
      go_ret
      exact ⟨by first | rfl | exact ret_bool (by simp; omega), hB⟩
    · have Hl : Hid (gchk L = 0) := Lib.hid (by rw [hl]; simp [hbuy]; omega)
      clear hl
      go_enter Try.func3, Try.ntmps3
      go_wp2_with (first | ((with_reducible refine at_load 32 ?_); refine wpList_load_part rfl 32 _ rfl (w.heap.size) 0 rfl 32 (G) (0, 0) _ 37 (by first | exact hg1 | exact heap_new rfl) Try.underlying32 rfl (by kernel_rfl) (by rw [HS.out]; omega) (G) (extract_all HS.out) ?_) | ((with_reducible refine at_store 32 ?_); refine wpList_store_new rfl 32 _ _ rfl (G) _ _ _ rfl (by simp) rfl (by rw [HS.out]; kernel_rfl) (by rw [HS.out]; rfl) (h.one) ?_) | ((with_reducible refine at_load 32 ?_); refine wpList_load_part rfl 32 _ rfl (w1.heap.size) 0 rfl 32 (L) (0, 0) _ 37 (by rw [← HL.out]; exact heap_new rfl) Try.underlying32 rfl (by kernel_rfl) (by rw [HLs.out]; omega) (L) (extract_all HLs.out) ?_) | (go_at_call 12; (with_reducible refine (check_any G _ (isGate_of h)).mono ?_); rintro e w1 ⟨rfl, hb⟩; rw [H0.out]; have hg1 := kept hb (heap_alloc_new _ _); have hc1 := (cells_of hg1).1; have hs1 := (cells_of hg1).2.2))
      refine (check_any L _ (isGate_of hlr)).mono ?_
      rintro e w2 ⟨rfl, hb2⟩
      rw [Hl.out]
      have hB := below_then (below_alloc (below_then (below_new _ _) hb) _) hb2
      have hg2 := kept hb2 (heap_up hg1)
      have hc2 := (cells_of hg2).1
      clear hb hb2 hg1 hc1 hs1 hg2
      go_wp2_with fail
      refine (known12 _).mono ?_
      rintro e w3 ⟨rfl, hb⟩
      have hB := below_then hB hb
      clear hb
      go_wp2
      go_ret
      exact ⟨by first | rfl | exact ret_bool (by simp; omega), hB⟩
  · by_cases hf : 10000000 < N G 31 + N G 32 + N G 36
    · have Hl : Hid (gchk L = 125) := Lib.hid (by rw [hl]; simp [hbuy, hf])
      clear hl
      go_enter Try.func3, Try.ntmps3
      go_wp2_with (first | ((with_reducible refine at_load 32 ?_); refine wpList_load_part rfl 32 _ rfl (w.heap.size) 0 rfl 32 (G) (0, 0) _ 37 (by first | exact hg1 | exact heap_new rfl) Try.underlying32 rfl (by kernel_rfl) (by rw [HS.out]; omega) (G) (extract_all HS.out) ?_) | ((with_reducible refine at_store 32 ?_); refine wpList_store_new rfl 32 _ _ rfl (G) _ _ _ rfl (by simp) rfl (by rw [HS.out]; kernel_rfl) (by rw [HS.out]; rfl) (h.one) ?_) | ((with_reducible refine at_load 32 ?_); refine wpList_load_part rfl 32 _ rfl (w1.heap.size) 0 rfl 32 (L) (0, 0) _ 37 (by rw [← HL.out]; exact heap_new rfl) Try.underlying32 rfl (by kernel_rfl) (by rw [HLs.out]; omega) (L) (extract_all HLs.out) ?_) | (go_at_call 12; (with_reducible refine (check_any G _ (isGate_of h)).mono ?_); rintro e w1 ⟨rfl, hb⟩; rw [H0.out]; have hg1 := kept hb (heap_alloc_new _ _); have hc1 := (cells_of hg1).1; have hs1 := (cells_of hg1).2.2))
      refine (check_any L _ (isGate_of hlr)).mono ?_
      rintro e w2 ⟨rfl, hb2⟩
      rw [Hl.out]
      have hB := below_then (below_alloc (below_then (below_new _ _) hb) _) hb2
      have hg2 := kept hb2 (heap_up hg1)
      have hc2 := (cells_of hg2).1
      clear hb hb2 hg1 hc1 hs1 hg2
      go_wp2_with fail
      refine (known12 _).mono ?_
      rintro e w3 ⟨rfl, hb⟩
      have hB := below_then hB hb
      clear hb
      go_wp2
      go_ret
      exact ⟨by first | rfl | exact ret_bool (by simp; omega), hB⟩
    · have Hl : Hid (gchk L = 0) := Lib.hid (by rw [hl]; simp [hbuy]; omega)
      clear hl
      go_enter Try.func3, Try.ntmps3
      go_wp2_with (first | ((with_reducible refine at_load 32 ?_); refine wpList_load_part rfl 32 _ rfl (w.heap.size) 0 rfl 32 (G) (0, 0) _ 37 (by first | exact hg1 | exact heap_new rfl) Try.underlying32 rfl (by kernel_rfl) (by rw [HS.out]; omega) (G) (extract_all HS.out) ?_) | ((with_reducible refine at_store 32 ?_); refine wpList_store_new rfl 32 _ _ rfl (G) _ _ _ rfl (by simp) rfl (by rw [HS.out]; kernel_rfl) (by rw [HS.out]; rfl) (h.one) ?_) | ((with_reducible refine at_load 32 ?_); refine wpList_load_part rfl 32 _ rfl (w1.heap.size) 0 rfl 32 (L) (0, 0) _ 37 (by rw [← HL.out]; exact heap_new rfl) Try.underlying32 rfl (by kernel_rfl) (by rw [HLs.out]; omega) (L) (extract_all HLs.out) ?_) | (go_at_call 12; (with_reducible refine (check_any G _ (isGate_of h)).mono ?_); rintro e w1 ⟨rfl, hb⟩; rw [H0.out]; have hg1 := kept hb (heap_alloc_new _ _); have hc1 := (cells_of hg1).1; have hs1 := (cells_of hg1).2.2))
      refine (check_any L _ (isGate_of hlr)).mono ?_
      rintro e w2 ⟨rfl, hb2⟩
      rw [Hl.out]
      have hB := below_then (below_alloc (below_then (below_new _ _) hb) _) hb2
      have hg2 := kept hb2 (heap_up hg1)
      have hc2 := (cells_of hg2).1
      clear hb hb2 hg1 hc1 hs1 hg2
      go_wp2_with fail
      refine (known12 _).mono ?_
      rintro e w3 ⟨rfl, hb⟩
      have hB := below_then hB hb
      clear hb
      go_wp2
      go_ret
      exact ⟨by first | rfl | exact ret_bool (by simp; omega), hB⟩

theorem less_walk (G : Array Value) (a b : Int) (w : World) (h : Rowk gateKs G) (_ha : F64 a) (_hb : F64 b) :
    Calls Try.prog 3 #[.agg G, .int .i64 a, .int .i64 b] w fun e w' => e = .returned (.bool true) ∧ Below w.heap.size w w' := by
  by_cases h0 : gchk G = 0
  · exact less_ok G a b w h h0
  · by_cases h1 : gchk G = 125
    · exact less_lim G a b w h h1
    · exact less_other G a b w h (by simp [h0]) (by simp [h1])
end Go.Proofs.Ytodbbcagpfjieaa
