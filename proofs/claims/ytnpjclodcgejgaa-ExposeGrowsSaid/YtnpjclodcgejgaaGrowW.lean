/- The statement ExposeGrows returns true, whatever comes in. No condition but that the numbers fit their kinds. -/
import Derived.Test.YtnpjclodcgejgaaGrowA
import Derived.Test.YtnpjclodcgejgaaOrdIn
import Derived.Test.YtnpjclodcgejgaaHeldG
namespace Go.Proofs.Ytnpjclodcgejgaa
set_option linter.unusedVariables false
set_option linter.unusedSimpArgs false
open Go.RowKit Go.Deep

theorem cells_of_own {w : World} {b n g c10 : Nat} {e : TypeId} {xs : List Value} (h : w.ownsRow b e 29 (.slice (some ⟨g, 0, none⟩) n c10) n xs) : ∃ cur, w.heap[g]? = some (.cells cur e (0, 0)) ∧ n * 29 ≤ cur.size := by
  obtain ⟨_, ⟨h, _⟩ | ⟨g', cap, cur, hv, _, hg, hn, hm, hc, _⟩⟩ := h
  · injection h with h; cases h
  · injection hv with h1 h2 h3
    injection h1 with h1; injection h1 with h1
    subst h1
    exact ⟨cur, hg, by rw [hc]; exact Nat.mul_le_mul_right 29 hn⟩
theorem own_ne {w : World} {b n s : Nat} {e : TypeId} {v : Value} {xs : List Value} (h : w.ownsRow b e s v n xs) : v.ownBlock = none ∨ v.ownBlock ≠ some w.heap.size := by
  cases h' : v.ownBlock with
  | none => exact .inl rfl
  | some g => exact .inr (fun e => by injection e with e; have := (h.lt g h').2; omega)
theorem some_block {w : World} {b n c10 : Nat} {e : TypeId} {a : Option Addr} {xs : List Value} (h : w.ownsRow b e 29 (.slice a n c10) n xs) (hn : 0 < n) : ∃ g, a = some ⟨g, 0, none⟩ := by
  obtain ⟨_, ⟨h, h0⟩ | ⟨g', cap, cur, hv, _⟩⟩ := h
  · omega
  · injection hv with h1
    exact ⟨g', h1⟩

set_option maxRecDepth 100000 in
set_option maxHeartbeats 4000000 in
theorem grow_walk (a : Option Addr) (n cap : Nat) (S : Nat → Array Value) (O : Nat → Nat → Array Value) (m : Nat → Nat) (at_ : Int) (B : Array Value) (W : World) (hS : ∀ i, IsStk (S i)) (hO : ∀ i k, IsOrd (O i k)) (hA : Stks W a n S O m) (hn : n ≤ cap) (hc : cap ≤ 9223372036854775807) (hz : a = none → n = 0 ∧ cap = 0) (hat : IntKind.i64.min ≤ at_ ∧ at_ ≤ IntKind.i64.max) (hB : IsOrd B) :
    Calls Try.prog 5 #[.slice a n cap, .int .i64 at_, .agg B] W fun e W' => e = .returned (.bool true) ∧ Below W.heap.size W W' := by
  have cl := large_any S O m a n cap (W.alloc (Obj.cells B 41)) (hA.kept (below_new W _)) (by omega)
  have HS0 := Lib.hid hS
  have HO := Lib.hid hO
  have HB := Lib.hid hB
  have HA0 := Lib.hid hA
  clear hS hO hA hB hat
  go_enter Try.func5, Try.ntmps5
  go_wp2_with fail
  refine cl.mono ?_
  clear cl
  rintro e w0 ⟨⟨b, rfl, hbf⟩, hw0⟩
  have hb0 : Below W.heap.size W w0 := by rw [← hw0]; exact below_new W _
  have hgB : w0.heap[W.heap.size]? = some (.cells B 41 (0, 0)) := by rw [← hw0]; exact heap_alloc_new W _
  clear hw0
  cases b
  · obtain ⟨h40, h300⟩ := hbf rfl
    have H300 := Lib.hid h300
    clear hbf h300
    have cm := need_any S O m a n cap w0 HS0.out HO.out (HA0.out.kept hb0) (by omega)
    by_cases hE : nE S O m n = 0
    · obtain ⟨hb1, hb2, hb3, hb4⟩ := need_bd HS0.out hE
      obtain ⟨f1, f2, f3⟩ := need_F (S := S) (O := O) (m := m) (n := n) HS0.out
      rw [show need S O m n = r3 (nM S O m n) (nW S O m n) (nU S O m n) from rfl, hE] at cm
      have HE := Lib.hid hE
      obtain ⟨k1, k2, k3, k4⟩ := need_none hE
      obtain ⟨p1, p2⟩ := need_cp (S := S) (xv := fun _ => .slice none 0 0) (O := O) (m := fun _ => 0) HS0.out n
      have HN0 := Lib.hid (And.intro (p1.trans k1) (p2.trans (show need S O (fun _ => 0) n = r3 (nM S O m n) 0 (nU S O m n) by rw [← k2, ← k4, ← k3]; rfl)))
      clear k1 k2 k3 k4 p1 p2 hE
      obtain ⟨M, hM⟩ : ∃ M, M = nM S O m n := ⟨_, rfl⟩
      obtain ⟨V, hV⟩ : ∃ V, V = nW S O m n := ⟨_, rfl⟩
      obtain ⟨U, hU⟩ : ∃ U, U = nU S O m n := ⟨_, rfl⟩
      rw [← hM, ← hV, ← hU] at cm hb4
      rw [← hM, ← hU] at HN0
      rw [← hM] at hb1 f1
      rw [← hV] at hb2 f2
      rw [← hU] at hb3 f3
      have HM := Lib.hid hM
      have HV := Lib.hid hV
      have HU := Lib.hid hU
      clear hM hV hU
      have ct : ∀ w, Calls Try.prog 16 #[.agg #[.int .i64 M, .int .i64 V, .int .i64 U]] w fun e w' => e = .returned (.int .i64 (M + V + U)) ∧ Below w.heap.size w w' := fun w => by
        have := total_any M V U w f1 f2 f3
        rw [show tot (M + V + U) = M + V + U by unfold tot; rw [if_neg (by omega), if_neg (by omega)]] at this
        exact this
      have he2 := fun w => show (binOp .neq 35 (.agg (r3 M 0 U)) (.agg (r3 M 0 U))).run Try.prog w = .ok (.bool false) w by rw [run_neq_struct, eq_need f1 (by unfold F64; omega) f3]; rfl
      have HE2 := Lib.hid he2
      clear f1 f2 f3 he2
      go_wp2_with fail
      refine cm.mono ?_
      clear cm
      rintro e w1 ⟨rfl, hbw1⟩
      have hN := heap_alloc_new w1 (Obj.cells (r3 M V U) 35)
      have hbw := below_alloc (below_then hb0 hbw1) (Obj.cells (r3 M V U) 35)
      have hWN : W.heap.size < w1.heap.size := by
        have := (Array.getElem?_eq_some_iff.1 hgB).1
        have := hbw1.size
        omega
      have hq2 := heap_up (o := Obj.cells (r3 M V U) 35) (Ytnpjclodcgejgaa.kept hbw1 hgB)
      have cN := cellF hN
      have z0 : (r3 M V U)[0]? = some (.int .i64 M) := rfl
      have z1 : (r3 M V U)[1]? = some (.int .i64 V) := rfl
      have z2 : (r3 M V U)[2]? = some (.int .i64 U) := rfl
      have d0 : ¬ M < 0 := by omega
      have d1 : ¬ V < 0 := by omega
      have d2 : ¬ U < 0 := by omega
      have d3 : ¬ 100000000000000000 < M + V + U := by omega
      have d4 : ¬ M + V + U < 0 := by omega
      clear hb0 hbw1 hgB
      go_wp2_with (first | ((with_reducible refine at_alloc 35 ?_); refine wpList_alloc_named rfl 35 rfl (r3 0 0 0) (by kernel_rfl) ?_) | ((with_reducible refine at_store 35 ?_); refine wpList_store_new rfl 35 _ _ rfl (r3 M V U) _ _ _ rfl (by simp) rfl (by rw [r3_size _ _ _]; kernel_rfl) (by rw [r3_size _ _ _]; rfl) (r3_all _ _ _) ?_) | ((with_reducible refine at_load 35 ?_); refine wpList_load_part rfl 35 _ rfl (w1.heap.size) (0) rfl _ (r3 M V U) _ _ 3 (hN) Try.underlying35 rfl (by kernel_rfl) (by rw [r3_size]; omega) (r3 M V U) (extract_all (r3_size _ _ _)) ?_) | (go_at_call 16; (with_reducible refine (ct _).mono ?_); rintro e wt ⟨rfl, hbt⟩; replace hN := kept hbt hN; replace hbw := below_then hbw hbt; replace hq2 := kept hbt hq2; have cN := cellF hN; have hwt := (Array.getElem?_eq_some_iff.1 hN).1) | ((with_reducible refine at_append 22 ?_); (refine wpList_append_stks rfl _ _ rfl wt.heap.size _ rfl (own_empty_t wt _ _) a n cap S O m HS0.out rfl (HA0.out.kept (below_alloc hbw _)) hz (by omega) (by simp) ?_; have hWt := hbw.size; intro v9 w4 ho9 hg9; have hbw4 : Below W.heap.size W w4 := (below_alloc hbw _).grown hg9 (by simp; omega) (fun j e => by have e : wt.heap.size = j := Option.some.inj e; omega); have hN4 := (hg9.block w1.heap.size (by simp; omega) (fun e => by injection e with e; have e : w1.heap.size = wt.heap.size := e; omega)).trans (heap_up hN); have hq4 := (hg9.block W.heap.size (by simp; omega) (fun e => by injection e with e; have e : W.heap.size = wt.heap.size := e; omega)).trans (heap_up hq2); obtain ⟨a9, c9, rfl, _⟩ := own_rows (fun i => (HS0.out i).size) ho9; have hs4 := hg9.size; have hvo := own_ne ho9)) | ((with_reducible refine at_append 22 ?_); refine wpList_append_stks rfl _ _ rfl w4.heap.size _ rfl (own_empty_t w4 _ _) a n cap S O m HS0.out rfl (HA0.out.kept (below_alloc hbw4 _)) hz (by omega) (by simp) ?_; intro v10 w5 ho10 hg10))
      have hsw4 : wt.heap.size < w4.heap.size := by
        have h := hs4
        rw [show (wt.alloc (Obj.cells #[] 33)).heap.size = wt.heap.size + 1 by simp] at h
        omega
      have hbw5 : Below W.heap.size W w5 := (below_alloc hbw4 _).grown hg10 (by first | (simp; done) | (simp; omega) | omega) (fun j e => by have e : w4.heap.size = j := Option.some.inj e; omega)
      have hN5 := (hg10.block w1.heap.size (by first | (simp; done) | (simp; omega) | omega) (fun e => by injection e with e; have e : w1.heap.size = w4.heap.size := e; omega)).trans (heap_up hN4)
      have hq5 := (hg10.block W.heap.size (by first | (simp; done) | (simp; omega) | omega) (fun e => by injection e with e; have e : W.heap.size = w4.heap.size := e; omega)).trans (heap_up hq4)
      have ho95 := (ho9.alloc (Obj.cells #[] 33)).kept hg10 hvo
      have hl9 : ∀ j, (Value.slice a9 n c9).ownBlock = some j → wt.heap.size ≤ j ∧ j < w4.heap.size := fun j e => ho9.lt j e
      obtain ⟨a10, c10, rfl, _⟩ := own_rows (fun i => (HS0.out i).size) ho10
      clear hg10 hN4 hq4 ho9 hbw4 hvo hs4 hbw hg9 hN hq2 cN
      obtain ⟨bA, hbA⟩ : ∃ bA, bA = wt.heap.size := ⟨_, rfl⟩
      obtain ⟨bB, hbB⟩ : ∃ bB, bB = w4.heap.size := ⟨_, rfl⟩
      rw [← hbA] at ho95 hl9 hsw4 hwt hWt
      rw [← hbB] at ho10 hl9 hsw4
      clear hbA hbB
      go_wp2_with fail
      go_loopg [64] n (fun gh i wx => ∃ j : Nat, j ≤ n ∧ gh = n - j ∧ i = .int .i64 j ∧ wx.ownsRow bA 33 29 (.slice a9 n c9) n (flat (bareS S j) n) ∧ wx.ownsRow bB 33 29 (.slice a10 n c10) n (flat S n) ∧ wx.heap[w1.heap.size]? = some (.cells (r3 M V U) 35 (0, 0)) ∧ wx.heap[W.heap.size]? = some (.cells B 41 (0, 0)) ∧ Below W.heap.size W wx)
      case atStart => exact ⟨0, by omega, by omega, rfl, by rw [bare_start]; exact ho95, ho10, hN5, hq5, hbw5⟩
      case round =>
        clear ho95 ho10 hN5 hq5 hbw5 d0 d1 d2 d3 d4 ct
        obtain ⟨j, hj, rfl, rfl, ho95, ho10, hN5, hq5, hbw5⟩ := hrel
        by_cases hlt : j < n
        · obtain ⟨g9, rfl⟩ := some_block ho95 (by omega)
          obtain ⟨g10, rfl⟩ := some_block ho10 (by omega)
          obtain ⟨cur, hg, hsz⟩ := cells_of_own ho95
          have cg := cellF hg
          have fg := (cells_of hg).2.1
          have hj28 := mul_in (n := n) (c := 29) (i := j) (j := 28) hlt (by omega)
          obtain ⟨vold, hvold⟩ : ∃ v, cur[j * 29 + 28]? = some v := ⟨_, Array.getElem?_eq_getElem (by omega)⟩
          have h9l := hl9 g9 rfl
          have h10l := ho10.lt g10 rfl
          have hnx := (ho95.stored (j * 29 + 28) (.slice none 0 0)).1
          rw [bare_next HS0.out hlt] at hnx
          have hnx10 := ownsRow_setCell_other ho10 (a := ⟨g9, j * 29 + 28, none⟩) (fun e => by have e : g10 = g9 := Option.some.inj e; omega) (.slice none 0 0)
          have hnxN := heap_set_other (g := g9) (i := j * 29 + 28) (v := .slice none 0 0) hN5 (by omega)
          have hnxq := heap_set_other (g := g9) (i := j * 29 + 28) (v := .slice none 0 0) hq5 (by omega)
          have hnxb := below_set (g := g9) (i := j * 29 + 28) (v := .slice none 0 0) hbw5 (by omega)
          go_wp2
          go_roundg (n - (j + 1))
          case measure => omega
          case rel => exact ⟨j + 1, by omega, rfl, by go_num, hnx, hnx10, hnxN, hnxq, hnxb⟩
        · obtain rfl : n = j := by omega
          rw [bare_end] at ho95
          obtain ⟨a9', c9', he9, hr9, _⟩ := own_rows (fun i => by unfold cp; simp [(HS0.out i).size]) ho95
          injection he9 with he9 _ he9c
          subst he9
          subst he9c
          have hst := stks_bare (O := O) HS0.out hr9
          have cm2 := need_any (cp S (fun _ => .slice none 0 0)) O (fun _ => 0) a9 n c9 wr (fun i => stk_cp (HS0.out i) ⟨_, _, _, rfl⟩) HO.out hst (by omega)
          rw [HN0.out.1, HN0.out.2] at cm2
          clear hst hr9 ho95
          go_wp2_with fail
          refine cm2.mono ?_
          clear cm2
          rintro e w6 ⟨rfl, hb6⟩
          have he2 := HE2.out
          have hN7 := heap_up (o := Obj.cells (r3 M 0 U) 35) (Ytnpjclodcgejgaa.kept hb6 hN5)
          have hq7 := heap_up (o := Obj.cells (r3 M 0 U) 35) (Ytnpjclodcgejgaa.kept hb6 hq5)
          have ho7 := (own_below hb6 ho10).alloc (Obj.cells (r3 M 0 U) 35)
          have hM7 := heap_alloc_new w6 (Obj.cells (r3 M 0 U) 35)
          have hbw7 := below_alloc (below_then hbw5 hb6) (Obj.cells (r3 M 0 U) 35)
          have cN := cellF hN7
          clear hN5 hq5 ho10 hbw5 hb6
          by_cases hn0 : 0 < n
          · obtain ⟨gw, rfl⟩ := some_block ho7 hn0
            have hw0 := (ho7.lt gw rfl).1
            obtain ⟨xx, hxx, hx0⟩ : ∃ xx, IntKind.u64.wrap at_ = xx ∧ 0 ≤ xx := ⟨_, rfl, by show 0 ≤ at_ % 18446744073709551616; omega⟩
            have hxn : IntKind.u64.wrap (n : Int) = n := by show (n : Int) % 18446744073709551616 = n; omega
            obtain ⟨k, hkk, hk⟩ : ∃ k : Nat, xx % (n : Int) = k ∧ k < n := ⟨(xx % (n : Int)).toNat, by have := Int.emod_nonneg xx (b := (n : Int)) (by omega); omega, by have := Int.emod_nonneg xx (b := (n : Int)) (by omega); have := Int.emod_lt_of_pos xx (b := (n : Int)) (by omega); omega⟩
            have hkt : xx.tmod (n : Int) = k := by rw [Int.tmod_eq_emod_of_nonneg hx0]; exact hkk
            have hj0 : ¬ (n : Int) = 0 := by omega
            go_wp2_with (first | ((with_reducible refine at_alloc 35 ?_); refine wpList_alloc_named rfl 35 rfl (r3 0 0 0) (by kernel_rfl) ?_) | ((with_reducible refine at_store 35 ?_); refine wpList_store_new rfl 35 _ _ rfl (r3 M 0 U) _ _ _ rfl (by simp) rfl (by rw [r3_size _ _ _]; kernel_rfl) (by rw [r3_size _ _ _]; rfl) (r3_all _ _ _) ?_) | ((with_reducible refine at_build 35 ?_); refine wpList_build_named rfl 35 _ rfl (r3 M 0 U) (by kernel_rfl) ?_) | ((with_reducible refine at_load 35 ?_); refine wpList_load_part rfl 35 _ rfl (w6.heap.size) (0) rfl _ (r3 M 0 U) _ _ 3 (hM7) Try.underlying35 rfl (by kernel_rfl) (by rw [r3_size]; omega) (r3 M 0 U) (extract_all (r3_size _ _ _)) ?_))
            obtain ⟨g, off, A, t, fr, rfl, hgl, hszA, hexA⟩ := HA0.out.at_ k hk
            obtain ⟨ad, c, h28, hord, hmc, hcc, hnil⟩ := HA0.out.or k hk
            have a28 : A[off + k * 29 + 28]? = some (.slice ad (m k) c) := by rw [at_ext29 hexA hszA (by omega)]; exact h28
            have HGL := Lib.hid hgl
            have HOR := Lib.hid hord
            have hmk := H300.out k hk
            have HEXB := Lib.hid (extract_all HB.out.size)
            refine wp_region_held (S := fun wt => wt.heap[g]? = some (.cells A t fr) ∧ wt.heap[W.heap.size]? = some (.cells B 41 (0, 0))) (by kernel_rfl) ?_
            change wpAnyH _ _ _ _ _ _ _ _ (World.drew _)
            obtain ⟨wy, hwy⟩ : ∃ wy, wy = (w6.alloc (Obj.cells (r3 M 0 U) 35)).drew := ⟨_, rfl⟩
            have hby : Below W.heap.size W wy := by rw [hwy]; exact Below.drew hbw7
            have hq1 : wy.heap[g]? = some (.cells A t fr) := Ytnpjclodcgejgaa.kept hby hgl
            have hq2 : wy.heap[W.heap.size]? = some (.cells B 41 (0, 0)) := by rw [hwy]; exact hq7
            have hNy : wy.heap[w1.heap.size]? = some (.cells (r3 M V U) 35 (0, 0)) := by rw [hwy]; exact hN7
            have ho10 : wy.ownsRow bB 33 29 (.slice (some ⟨gw, 0, none⟩) n c10) n (flat S n) := by rw [hwy]; exact ho7
            rw [← hwy]
            have hw4 : W.heap.size ≤ bB := by omega
            have HS : wy.heap[g]? = some (.cells A t fr) ∧ wy.heap[W.heap.size]? = some (.cells B 41 (0, 0)) := ⟨hq1, hq2⟩
            have hkn : (k : Int) < n := by omega
            clear hwy hexA h28 hord hgl hq7 hN7 ho7 hM7 hbw7 cN he2 hxx hxn hkk hkt
            (refine wpAnyH_take (i := 0) (v := ?_) rfl (by kernel_rfl) (by kernel_rfl) (by kernel_rfl) (fun _ _ _ h => h) (Or.inl ⟨by rfl, ?ht_0⟩) HS ?_); (case ht_0 => (intro wt hS; go_simp; try with_reducible rfl)); (try simp only [Act.put, List.getElem_toArray, List.getElem_cons_zero, List.getElem_cons_succ, List.setIfInBounds_toArray, List.set_cons_zero, List.set_cons_succ]); (refine wpAnyH_take (i := 1) (v := ?_) rfl (by kernel_rfl) (by kernel_rfl) (by kernel_rfl) (fun _ _ _ h => h) (Or.inl ⟨by rfl, ?ht_1⟩) HS ?_); (case ht_1 => (intro wt hS; go_simp; try with_reducible rfl)); (try simp only [Act.put, List.getElem_toArray, List.getElem_cons_zero, List.getElem_cons_succ, List.setIfInBounds_toArray, List.set_cons_zero, List.set_cons_succ]); (refine wpAnyH_take (i := 3) (v := ?_) rfl (by kernel_rfl) (by kernel_rfl) (by kernel_rfl) (fun _ _ _ h => h) (Or.inl ⟨by rfl, ?ht_3⟩) HS ?_); (case ht_3 => (intro wt hS; go_simp; try with_reducible rfl)); (try simp only [Act.put, List.getElem_toArray, List.getElem_cons_zero, List.getElem_cons_succ, List.setIfInBounds_toArray, List.set_cons_zero, List.set_cons_succ]); (refine wpAnyH_take (i := 4) (v := ?_) rfl (by kernel_rfl) (by kernel_rfl) (by kernel_rfl) (fun _ _ _ h => h) (Or.inl ⟨by rfl, ?ht_4⟩) HS ?_); (case ht_4 => (intro wt hS; go_simp; try with_reducible rfl)); (try simp only [Act.put, List.getElem_toArray, List.getElem_cons_zero, List.getElem_cons_succ, List.setIfInBounds_toArray, List.set_cons_zero, List.set_cons_succ]); (refine wpAnyH_take (i := 5) (v := ?_) rfl (by kernel_rfl) (by kernel_rfl) (by kernel_rfl) (fun _ _ _ h => h) (Or.inl ⟨by rfl, ?ht_5⟩) HS ?_); (case ht_5 => (intro wt hS; go_simp; try with_reducible rfl)); (try simp only [Act.put, List.getElem_toArray, List.getElem_cons_zero, List.getElem_cons_succ, List.setIfInBounds_toArray, List.set_cons_zero, List.set_cons_succ]); (refine wpAnyH_take (i := 6) (v := ?_) rfl (by kernel_rfl) (by kernel_rfl) (by kernel_rfl) (fun _ _ _ h => h) (Or.inl ⟨by rfl, ?ht_6⟩) HS ?_); (case ht_6 => (intro wt hS; go_simp; try with_reducible rfl)); (try simp only [Act.put, List.getElem_toArray, List.getElem_cons_zero, List.getElem_cons_succ, List.setIfInBounds_toArray, List.set_cons_zero, List.set_cons_succ])
            (refine wpAnyH_take (i := 7) (v := ?_) rfl (by kernel_rfl) (by kernel_rfl) (by kernel_rfl) (fun _ _ _ h => h) (Or.inl ⟨by rfl, ?ht_7⟩) HS ?_); (case ht_7 => (intro wt hS; have cg := cellF hS.1; go_simp; try with_reducible rfl)); (try simp only [Act.put, List.getElem_toArray, List.getElem_cons_zero, List.getElem_cons_succ, List.setIfInBounds_toArray, List.set_cons_zero, List.set_cons_succ])
            (refine wpAnyH_take (i := 9) (v := .agg B) rfl (by kernel_rfl) (by kernel_rfl) (by kernel_rfl) (fun _ _ _ h => h) (Or.inl ⟨by rfl, ?ht_9⟩) HS ?_); (case ht_9 => (intro wt hS; exact exec_load_part 41 _ rfl W.heap.size 0 (by rfl) _ B _ _ 5 hS.2 Try.underlying41 rfl (by kernel_rfl) (by rw [HB.out.size]; omega) B HEXB.out)); (try simp only [Act.put, List.getElem_toArray, List.getElem_cons_zero, List.getElem_cons_succ, List.setIfInBounds_toArray, List.set_cons_zero, List.set_cons_succ])
            obtain ⟨ip, zp, ip1, ip2, ip3, ip4, ip5⟩ := info_ord
            refine wpAnyH_ready (rs := [2, 10]) (by kernel_rfl) (by decide) ?_
            refine AllReadyH.cons rfl (fun K' hK => ?_) (AllReadyH.cons rfl (fun K' hK => ?_) AllReadyH.nil)
            · rw [if_pos (by rfl)]
              go_simp
              refine hK.out _ _ ⟨heap_up hq1, heap_up hq2⟩ (fun HS => ?_)
              clear hK K'
              (try simp only [Act.put, List.getElem_toArray, List.getElem_cons_zero, List.getElem_cons_succ, List.setIfInBounds_toArray, List.set_cons_zero, List.set_cons_succ])
              refine wpAnyH_ready (rs := [8, 10]) (by kernel_rfl) (by decide) ?_
              refine AllReadyH.cons rfl (fun K' hK => ?_) (AllReadyH.cons rfl (fun K' hK => ?_) AllReadyH.nil)
              · rw [if_pos (by rfl)]
                refine op_append_ords _ _ rfl wy.heap.size _ rfl (own_empty_t wy _ _) ad (m k) c (O k) (HO.out k) rfl (HOR.out.kept (below_then hby (below_new wy _))) hnil (by omega) (by simp) (fun v8 w8 ho8 hg8 => ?_)
                have hb8v : Below wy.heap.size wy w8 := (below_new wy _).grown hg8 (by simp) (fun j e => by have e : wy.heap.size = j := Option.some.inj e; omega)
                refine hK.out _ _ ⟨Ytnpjclodcgejgaa.kept hb8v hq1, Ytnpjclodcgejgaa.kept hb8v hq2⟩ (fun HS => ?_)
                clear hK K'
                (try simp only [Act.put, List.getElem_toArray, List.getElem_cons_zero, List.getElem_cons_succ, List.setIfInBounds_toArray, List.set_cons_zero, List.set_cons_succ])
                (refine wpAnyH_ready (rs := [10]) (by kernel_rfl) (by decide) ?_); (refine AllReadyH.cons rfl (fun K' hK => ?_) AllReadyH.nil); (rw [if_pos (by rfl)])
                refine op_slice1 31 41 _ rfl B 5 rfl HB.out.size ip zp Try.underlying31 ip1 ip2 ip3 ip5 (by omega) (by omega) (hK.out _ _ ⟨heap_up HS.1, heap_up HS.2⟩ (fun HS => ?_))
                clear hK K'
                (try simp only [Act.put, List.getElem_toArray, List.getElem_cons_zero, List.getElem_cons_succ, List.setIfInBounds_toArray, List.set_cons_zero, List.set_cons_succ])
                obtain ⟨gs, hgs0⟩ : ∃ gs, gs = w8.heap.size := ⟨_, rfl⟩
                have hgs : (w8.alloc (Obj.cells B 41)).heap[gs]? = some (.cells B 41 (0, 0)) := by rw [hgs0]; exact heap_alloc_new _ _
                rw [← hgs0]
                clear hgs0
                have ho8 := ho8.alloc (Obj.cells B 41)
                have hbE := below_alloc hb8v (Obj.cells B 41)
                obtain ⟨wE, hwE⟩ : ∃ wE, wE = w8.alloc (Obj.cells B 41) := ⟨_, rfl⟩
                rw [← hwE] at hgs ho8 hbE HS ⊢
                clear hwE
                obtain ⟨b8, hb8e⟩ : ∃ b8, b8 = wy.heap.size := ⟨_, rfl⟩
                rw [← hb8e] at ho8
                have hb8y : wy.heap.size ≤ b8 := by omega
                have hb8 : b8 ≤ wE.heap.size := by have := hbE.size; omega
                clear hb8e
                (refine wpAnyH_ready (rs := [11]) (by kernel_rfl) (by decide) ?_); (refine AllReadyH.cons rfl (fun K' hK => ?_) AllReadyH.nil); (rw [if_pos (by rfl)])
                refine op_append_ord1 _ _ rfl b8 v8 (m k) _ rfl ho8 gs B HB.out rfl hgs (by omega) hb8 (fun v9x wE2 ho9x hg9x => ?_)
                have hlt8 := fun g e => (ho8.lt g e)
                have hbE2 : Below wy.heap.size wy wE2 := hbE.grown hg9x (by have := hbE.size; omega) (fun j e => by have := (hlt8 j e).1; omega)
                refine hK.out _ _ ⟨Ytnpjclodcgejgaa.kept hbE2 hq1, Ytnpjclodcgejgaa.kept hbE2 hq2⟩ (fun HS => ?_)
                clear hK K'
                (try simp only [Act.put, List.getElem_toArray, List.getElem_cons_zero, List.getElem_cons_succ, List.setIfInBounds_toArray, List.set_cons_zero, List.set_cons_succ])
                (refine wpAnyH_take (i := 12) (v := ?_) rfl (by kernel_rfl) (by kernel_rfl) (by kernel_rfl) (fun _ _ _ h => h) (Or.inl ⟨by rfl, ?ht_12⟩) HS ?_); (case ht_12 => (intro wt hS; go_simp; try with_reducible rfl)); (try simp only [Act.put, List.getElem_toArray, List.getElem_cons_zero, List.getElem_cons_succ, List.setIfInBounds_toArray, List.set_cons_zero, List.set_cons_succ]); (refine wpAnyH_take (i := 13) (v := ?_) rfl (by kernel_rfl) (by kernel_rfl) (by kernel_rfl) (fun _ _ _ h => h) (Or.inl ⟨by rfl, ?ht_13⟩) HS ?_); (case ht_13 => (intro wt hS; go_simp; try with_reducible rfl)); (try simp only [Act.put, List.getElem_toArray, List.getElem_cons_zero, List.getElem_cons_succ, List.setIfInBounds_toArray, List.set_cons_zero, List.set_cons_succ])
                have ho10y := own_below hbE2 ho10
                have hgt := cells_of_own ho10y
                obtain ⟨curw, hgw, hszw⟩ := hgt
                have cw := cellF hgw
                have fw := (cells_of hgw).2.1
                obtain ⟨vold, hvold⟩ : ∃ v, curw[k * 29 + 28]? = some v := ⟨_, Array.getElem?_eq_getElem (by have := mul_in (n := n) (c := 29) (i := k) (j := 28) hk (by omega); omega)⟩
                obtain ⟨⟨a8, c8, rfl⟩, hst8, hbst⟩ := grow_fin HS0.out HO.out HB.out HA0.out (below_then hby hbE2) hk hw4 ho10y ho9x
                have hne1 : g ≠ gw := by have := (Array.getElem?_eq_some_iff.1 HGL.out).1; omega
                have hne2 : W.heap.size ≠ gw := by omega
                (refine wpAnyH_ready (rs := [14]) (by kernel_rfl) (by decide) ?_); (refine AllReadyH.cons rfl (fun K' hK => ?_) AllReadyH.nil); (rw [if_pos (by rfl)])
                go_simp
                refine hK.out _ _ ⟨heap_set_other HS.1 hne1, heap_set_other HS.2 hne2⟩ (fun HS => ?_)
                clear hK K' cw fw
                (try simp only [Act.put, List.getElem_toArray, List.getElem_cons_zero, List.getElem_cons_succ, List.setIfInBounds_toArray, List.set_cons_zero, List.set_cons_succ])
                refine wpAnyH_done (by kernel_rfl) ?_ _
                have hN9 := heap_set_other (g := gw) (i := k * 29 + 28) (v := .slice a8 (m k + 1) c8) (Ytnpjclodcgejgaa.kept hbE2 hNy) (show w1.heap.size ≠ gw by omega)
                obtain ⟨wz, hwz⟩ : ∃ wz, wz = wE2.setCell ⟨gw, k * 29 + 28, none⟩ (.slice a8 (m k + 1) c8) := ⟨_, rfl⟩
                rw [← hwz] at hst8 hbst hN9
                rw [← hwz]
                clear hwz
                have cm3 := need_any _ _ _ _ n c10 wz (fun i => stk_wide (k := k) (v := .slice a8 (m k + 1) c8) HS0.out ⟨_, _, _, rfl⟩ i) (ok1_ord (k := k) (m := m) HO.out HB.out) hst8 (by omega)
                obtain ⟨q1, q2, q3, q4⟩ := need_wide (k := k) (v := .slice a8 (m k + 1) c8) (O := Ok1 O m k B) (m := mk1 m k) HS0.out n
                rw [show need (wideS S k (.slice a8 (m k + 1) c8)) (Ok1 O m k B) (mk1 m k) n = r3 (nM S (Ok1 O m k B) (mk1 m k) n) (nW S (Ok1 O m k B) (mk1 m k) n) (nU S (Ok1 O m k B) (mk1 m k) n) by rw [← q2, ← q3, ← q4]; rfl, q1] at cm3
                have hmore := need_more (k := k) (x := B) HS0.out HE.out
                have HMORE := Lib.hid hmore
                clear hmore q1 q2 q3 q4 hst8
                have HN9 := Lib.hid hN9
                by_cases hg0 : nE S (Ok1 O m k B) (mk1 m k) n = 0
                · obtain ⟨r1, r2, r3'⟩ := HMORE.out hg0
                  rw [r1, r2, ← HM.out, ← HU.out, hg0] at cm3
                  rw [← HV.out] at r3'
                  generalize nW S (Ok1 O m k B) (mk1 m k) n = V2 at *
                  clear r1 r2 hg0 HMORE
                  have dV : ¬ V2 < V := by omega
                  go_wp2_with fail
                  refine cm3.mono ?_
                  clear cm3
                  rintro e w8 ⟨rfl, hb8z⟩
                  have hN10 := heap_up (o := Obj.cells (r3 M V2 U) 35) (Ytnpjclodcgejgaa.kept hb8z HN9.out)
                  have hM10 := heap_alloc_new w8 (Obj.cells (r3 M V2 U) 35)
                  have cN := cellF hN10
                  have cM := cellF hM10
                  have z0 : (r3 M V U)[0]? = some (.int .i64 M) := rfl
                  have z1 : (r3 M V U)[1]? = some (.int .i64 V) := rfl
                  have z2 : (r3 M V U)[2]? = some (.int .i64 U) := rfl
                  have y0 : (r3 M V2 U)[0]? = some (.int .i64 M) := rfl
                  have y1 : (r3 M V2 U)[1]? = some (.int .i64 V2) := rfl
                  have y2 : (r3 M V2 U)[2]? = some (.int .i64 U) := rfl
                  have hbz := below_alloc (below_then hbst hb8z) (Obj.cells (r3 M V2 U) 35)
                  go_wp2_with (first | ((with_reducible refine at_alloc 35 ?_); refine wpList_alloc_named rfl 35 rfl (r3 0 0 0) (by kernel_rfl) ?_) | ((with_reducible refine at_store 35 ?_); refine wpList_store_new rfl 35 _ _ rfl (r3 M V2 U) _ _ _ rfl (by simp) rfl (by rw [r3_size _ _ _]; kernel_rfl) (by rw [r3_size _ _ _]; rfl) (r3_all _ _ _) ?_) | (go_at_call 13; (with_reducible refine (known11 _).mono ?_); rintro e w5 ⟨rfl, hb5⟩))
                  go_ret
                  exact ⟨rfl, below_then hbz hb5⟩
                · generalize nM S (Ok1 O m k B) (mk1 m k) n = M3 at *
                  generalize nW S (Ok1 O m k B) (mk1 m k) n = V3 at *
                  generalize nU S (Ok1 O m k B) (mk1 m k) n = U3 at *
                  generalize nE S (Ok1 O m k B) (mk1 m k) n = E3 at *
                  clear HMORE
                  go_wp2_with fail
                  refine cm3.mono ?_
                  clear cm3
                  rintro e w8 ⟨rfl, hb8z⟩
                  have hbz := below_alloc (below_then hbst hb8z) (Obj.cells (r3 M3 V3 U3) 35)
                  go_wp2_with (first | ((with_reducible refine at_alloc 35 ?_); refine wpList_alloc_named rfl 35 rfl (r3 0 0 0) (by kernel_rfl) ?_) | ((with_reducible refine at_store 35 ?_); refine wpList_store_new rfl 35 _ _ rfl (r3 M3 V3 U3) _ _ _ rfl (by simp) rfl (by rw [r3_size _ _ _]; kernel_rfl) (by rw [r3_size _ _ _]; rfl) (r3_all _ _ _) ?_) | (go_at_call 13; (with_reducible refine (known11 _).mono ?_); rintro e w5 ⟨rfl, hb5⟩))
                  go_ret
                  exact ⟨rfl, below_then hbz hb5⟩
              · rw [if_pos (by rfl)]
                refine op_slice1 31 41 _ rfl B 5 rfl HB.out.size ip zp Try.underlying31 ip1 ip2 ip3 ip5 (by omega) (by omega) (hK.out _ _ ⟨heap_up HS.1, heap_up HS.2⟩ (fun HS => ?_))
                clear hK K'
                (try simp only [Act.put, List.getElem_toArray, List.getElem_cons_zero, List.getElem_cons_succ, List.setIfInBounds_toArray, List.set_cons_zero, List.set_cons_succ])
                obtain ⟨gs, hgs0⟩ : ∃ gs, gs = (wy.alloc (Obj.cells #[] 41)).heap.size := ⟨_, rfl⟩
                have hgsv : ((wy.alloc (Obj.cells #[] 41)).alloc (Obj.cells B 41)).heap[gs]? = some (.cells B 41 (0, 0)) := by rw [hgs0]; exact heap_alloc_new _ _
                have hgse : gs = wy.heap.size + 1 := by rw [hgs0]; simp
                rw [← hgs0]
                clear hgs0
                (refine wpAnyH_ready (rs := [8]) (by kernel_rfl) (by decide) ?_); (refine AllReadyH.cons rfl (fun K' hK => ?_) AllReadyH.nil); (rw [if_pos (by rfl)])
                refine op_append_ords _ _ rfl wy.heap.size _ rfl ((own_empty_t wy _ _).alloc _) ad (m k) c (O k) (HO.out k) rfl (HOR.out.kept (below_then hby (below_alloc (below_new wy _) _))) hnil (by omega) (by simp; omega) (fun v8 wE ho8 hg8 => ?_)
                have hbE : Below wy.heap.size wy wE := (below_alloc (below_new wy _) _).grown hg8 (by simp; omega) (fun j e => by have e : wy.heap.size = j := Option.some.inj e; omega)
                have hgs := (hg8.block gs (by simp; omega) (fun e => by injection e with e; have e : gs = wy.heap.size := e; omega)).trans hgsv
                refine hK.out _ _ ⟨Ytnpjclodcgejgaa.kept hbE hq1, Ytnpjclodcgejgaa.kept hbE hq2⟩ (fun HS => ?_)
                clear hK K' hgsv hgse
                (try simp only [Act.put, List.getElem_toArray, List.getElem_cons_zero, List.getElem_cons_succ, List.setIfInBounds_toArray, List.set_cons_zero, List.set_cons_succ])
                obtain ⟨b8, hb8e⟩ : ∃ b8, b8 = wy.heap.size := ⟨_, rfl⟩
                rw [← hb8e] at ho8
                have hb8y : wy.heap.size ≤ b8 := by omega
                have hb8 : b8 ≤ wE.heap.size := by have := hbE.size; omega
                clear hb8e
                (refine wpAnyH_ready (rs := [11]) (by kernel_rfl) (by decide) ?_); (refine AllReadyH.cons rfl (fun K' hK => ?_) AllReadyH.nil); (rw [if_pos (by rfl)])
                refine op_append_ord1 _ _ rfl b8 v8 (m k) _ rfl ho8 gs B HB.out rfl hgs (by omega) hb8 (fun v9x wE2 ho9x hg9x => ?_)
                have hlt8 := fun g e => (ho8.lt g e)
                have hbE2 : Below wy.heap.size wy wE2 := hbE.grown hg9x (by have := hbE.size; omega) (fun j e => by have := (hlt8 j e).1; omega)
                refine hK.out _ _ ⟨Ytnpjclodcgejgaa.kept hbE2 hq1, Ytnpjclodcgejgaa.kept hbE2 hq2⟩ (fun HS => ?_)
                clear hK K'
                (try simp only [Act.put, List.getElem_toArray, List.getElem_cons_zero, List.getElem_cons_succ, List.setIfInBounds_toArray, List.set_cons_zero, List.set_cons_succ])
                (refine wpAnyH_take (i := 12) (v := ?_) rfl (by kernel_rfl) (by kernel_rfl) (by kernel_rfl) (fun _ _ _ h => h) (Or.inl ⟨by rfl, ?ht_12⟩) HS ?_); (case ht_12 => (intro wt hS; go_simp; try with_reducible rfl)); (try simp only [Act.put, List.getElem_toArray, List.getElem_cons_zero, List.getElem_cons_succ, List.setIfInBounds_toArray, List.set_cons_zero, List.set_cons_succ]); (refine wpAnyH_take (i := 13) (v := ?_) rfl (by kernel_rfl) (by kernel_rfl) (by kernel_rfl) (fun _ _ _ h => h) (Or.inl ⟨by rfl, ?ht_13⟩) HS ?_); (case ht_13 => (intro wt hS; go_simp; try with_reducible rfl)); (try simp only [Act.put, List.getElem_toArray, List.getElem_cons_zero, List.getElem_cons_succ, List.setIfInBounds_toArray, List.set_cons_zero, List.set_cons_succ])
                have ho10y := own_below hbE2 ho10
                have hgt := cells_of_own ho10y
                obtain ⟨curw, hgw, hszw⟩ := hgt
                have cw := cellF hgw
                have fw := (cells_of hgw).2.1
                obtain ⟨vold, hvold⟩ : ∃ v, curw[k * 29 + 28]? = some v := ⟨_, Array.getElem?_eq_getElem (by have := mul_in (n := n) (c := 29) (i := k) (j := 28) hk (by omega); omega)⟩
                obtain ⟨⟨a8, c8, rfl⟩, hst8, hbst⟩ := grow_fin HS0.out HO.out HB.out HA0.out (below_then hby hbE2) hk hw4 ho10y ho9x
                have hne1 : g ≠ gw := by have := (Array.getElem?_eq_some_iff.1 HGL.out).1; omega
                have hne2 : W.heap.size ≠ gw := by omega
                (refine wpAnyH_ready (rs := [14]) (by kernel_rfl) (by decide) ?_); (refine AllReadyH.cons rfl (fun K' hK => ?_) AllReadyH.nil); (rw [if_pos (by rfl)])
                go_simp
                refine hK.out _ _ ⟨heap_set_other HS.1 hne1, heap_set_other HS.2 hne2⟩ (fun HS => ?_)
                clear hK K' cw fw
                (try simp only [Act.put, List.getElem_toArray, List.getElem_cons_zero, List.getElem_cons_succ, List.setIfInBounds_toArray, List.set_cons_zero, List.set_cons_succ])
                refine wpAnyH_done (by kernel_rfl) ?_ _
                have hN9 := heap_set_other (g := gw) (i := k * 29 + 28) (v := .slice a8 (m k + 1) c8) (Ytnpjclodcgejgaa.kept hbE2 hNy) (show w1.heap.size ≠ gw by omega)
                obtain ⟨wz, hwz⟩ : ∃ wz, wz = wE2.setCell ⟨gw, k * 29 + 28, none⟩ (.slice a8 (m k + 1) c8) := ⟨_, rfl⟩
                rw [← hwz] at hst8 hbst hN9
                rw [← hwz]
                clear hwz
                have cm3 := need_any _ _ _ _ n c10 wz (fun i => stk_wide (k := k) (v := .slice a8 (m k + 1) c8) HS0.out ⟨_, _, _, rfl⟩ i) (ok1_ord (k := k) (m := m) HO.out HB.out) hst8 (by omega)
                obtain ⟨q1, q2, q3, q4⟩ := need_wide (k := k) (v := .slice a8 (m k + 1) c8) (O := Ok1 O m k B) (m := mk1 m k) HS0.out n
                rw [show need (wideS S k (.slice a8 (m k + 1) c8)) (Ok1 O m k B) (mk1 m k) n = r3 (nM S (Ok1 O m k B) (mk1 m k) n) (nW S (Ok1 O m k B) (mk1 m k) n) (nU S (Ok1 O m k B) (mk1 m k) n) by rw [← q2, ← q3, ← q4]; rfl, q1] at cm3
                have hmore := need_more (k := k) (x := B) HS0.out HE.out
                have HMORE := Lib.hid hmore
                clear hmore q1 q2 q3 q4 hst8
                have HN9 := Lib.hid hN9
                by_cases hg0 : nE S (Ok1 O m k B) (mk1 m k) n = 0
                · obtain ⟨r1, r2, r3'⟩ := HMORE.out hg0
                  rw [r1, r2, ← HM.out, ← HU.out, hg0] at cm3
                  rw [← HV.out] at r3'
                  generalize nW S (Ok1 O m k B) (mk1 m k) n = V2 at *
                  clear r1 r2 hg0 HMORE
                  have dV : ¬ V2 < V := by omega
                  go_wp2_with fail
                  refine cm3.mono ?_
                  clear cm3
                  rintro e w8 ⟨rfl, hb8z⟩
                  have hN10 := heap_up (o := Obj.cells (r3 M V2 U) 35) (Ytnpjclodcgejgaa.kept hb8z HN9.out)
                  have hM10 := heap_alloc_new w8 (Obj.cells (r3 M V2 U) 35)
                  have cN := cellF hN10
                  have cM := cellF hM10
                  have z0 : (r3 M V U)[0]? = some (.int .i64 M) := rfl
                  have z1 : (r3 M V U)[1]? = some (.int .i64 V) := rfl
                  have z2 : (r3 M V U)[2]? = some (.int .i64 U) := rfl
                  have y0 : (r3 M V2 U)[0]? = some (.int .i64 M) := rfl
                  have y1 : (r3 M V2 U)[1]? = some (.int .i64 V2) := rfl
                  have y2 : (r3 M V2 U)[2]? = some (.int .i64 U) := rfl
                  have hbz := below_alloc (below_then hbst hb8z) (Obj.cells (r3 M V2 U) 35)
                  go_wp2_with (first | ((with_reducible refine at_alloc 35 ?_); refine wpList_alloc_named rfl 35 rfl (r3 0 0 0) (by kernel_rfl) ?_) | ((with_reducible refine at_store 35 ?_); refine wpList_store_new rfl 35 _ _ rfl (r3 M V2 U) _ _ _ rfl (by simp) rfl (by rw [r3_size _ _ _]; kernel_rfl) (by rw [r3_size _ _ _]; rfl) (r3_all _ _ _) ?_) | (go_at_call 13; (with_reducible refine (known11 _).mono ?_); rintro e w5 ⟨rfl, hb5⟩))
                  go_ret
                  exact ⟨rfl, below_then hbz hb5⟩
                · generalize nM S (Ok1 O m k B) (mk1 m k) n = M3 at *
                  generalize nW S (Ok1 O m k B) (mk1 m k) n = V3 at *
                  generalize nU S (Ok1 O m k B) (mk1 m k) n = U3 at *
                  generalize nE S (Ok1 O m k B) (mk1 m k) n = E3 at *
                  clear HMORE
                  go_wp2_with fail
                  refine cm3.mono ?_
                  clear cm3
                  rintro e w8 ⟨rfl, hb8z⟩
                  have hbz := below_alloc (below_then hbst hb8z) (Obj.cells (r3 M3 V3 U3) 35)
                  go_wp2_with (first | ((with_reducible refine at_alloc 35 ?_); refine wpList_alloc_named rfl 35 rfl (r3 0 0 0) (by kernel_rfl) ?_) | ((with_reducible refine at_store 35 ?_); refine wpList_store_new rfl 35 _ _ rfl (r3 M3 V3 U3) _ _ _ rfl (by simp) rfl (by rw [r3_size _ _ _]; kernel_rfl) (by rw [r3_size _ _ _]; rfl) (r3_all _ _ _) ?_) | (go_at_call 13; (with_reducible refine (known11 _).mono ?_); rintro e w5 ⟨rfl, hb5⟩))
                  go_ret
                  exact ⟨rfl, below_then hbz hb5⟩
            · rw [if_pos (by rfl)]
              refine op_slice1 31 41 _ rfl B 5 rfl HB.out.size ip zp Try.underlying31 ip1 ip2 ip3 ip5 (by omega) (by omega) (hK.out _ _ ⟨heap_up HS.1, heap_up HS.2⟩ (fun HS => ?_))
              clear hK K'
              (try simp only [Act.put, List.getElem_toArray, List.getElem_cons_zero, List.getElem_cons_succ, List.setIfInBounds_toArray, List.set_cons_zero, List.set_cons_succ])
              obtain ⟨gs, hgs0⟩ : ∃ gs, gs = wy.heap.size := ⟨_, rfl⟩
              have hgs1 : (wy.alloc (Obj.cells B 41)).heap[gs]? = some (.cells B 41 (0, 0)) := by rw [hgs0]; exact heap_alloc_new _ _
              rw [← hgs0]
              have HGS := Lib.hid hgs0
              clear hgs0
              (refine wpAnyH_ready (rs := [2]) (by kernel_rfl) (by decide) ?_); (refine AllReadyH.cons rfl (fun K' hK => ?_) AllReadyH.nil); (rw [if_pos (by rfl)])
              go_simp
              refine hK.out _ _ ⟨heap_up HS.1, heap_up HS.2⟩ (fun HS => ?_)
              clear hK K'
              (try simp only [Act.put, List.getElem_toArray, List.getElem_cons_zero, List.getElem_cons_succ, List.setIfInBounds_toArray, List.set_cons_zero, List.set_cons_succ])
              have ho0 := own_empty_t (wy.alloc (Obj.cells B 41)) 41 5
              rw [show (wy.alloc (Obj.cells B 41)).heap.size = wy.heap.size + 1 by simp] at ho0
              (refine wpAnyH_ready (rs := [8]) (by kernel_rfl) (by decide) ?_); (refine AllReadyH.cons rfl (fun K' hK => ?_) AllReadyH.nil); (rw [if_pos (by rfl)])
              refine op_append_ords _ _ rfl (wy.heap.size + 1) _ rfl ho0 ad (m k) c (O k) (HO.out k) rfl (HOR.out.kept (below_then hby (below_alloc (below_new wy _) _))) hnil (by omega) (by simp; try omega) (fun v8 wE ho8 hg8 => ?_)
              have hbE : Below wy.heap.size wy wE := (below_alloc (below_new wy _) _).grown hg8 (by simp; omega) (fun j e => by have e : wy.heap.size + 1 = j := Option.some.inj e; omega)
              have hgs := (hg8.block gs (by rw [HGS.out]; simp; omega) (fun e => by injection e with e; have e : gs = wy.heap.size + 1 := e; have := HGS.out; omega)).trans (heap_up hgs1)
              refine hK.out _ _ ⟨Ytnpjclodcgejgaa.kept hbE hq1, Ytnpjclodcgejgaa.kept hbE hq2⟩ (fun HS => ?_)
              clear hK K' hgs1 ho0
              (try simp only [Act.put, List.getElem_toArray, List.getElem_cons_zero, List.getElem_cons_succ, List.setIfInBounds_toArray, List.set_cons_zero, List.set_cons_succ])
              obtain ⟨b8, hb8e⟩ : ∃ b8, b8 = wy.heap.size + 1 := ⟨_, rfl⟩
              rw [← hb8e] at ho8
              have hb8y : wy.heap.size ≤ b8 := by omega
              have hb8 : b8 ≤ wE.heap.size := by have h := hg8.size; rw [show ((wy.alloc (Obj.cells B 41)).alloc (Obj.cells #[] 41)).heap.size = wy.heap.size + 2 by simp] at h; omega
              clear hb8e
              (refine wpAnyH_ready (rs := [11]) (by kernel_rfl) (by decide) ?_); (refine AllReadyH.cons rfl (fun K' hK => ?_) AllReadyH.nil); (rw [if_pos (by rfl)])
              refine op_append_ord1 _ _ rfl b8 v8 (m k) _ rfl ho8 gs B HB.out rfl hgs (by omega) hb8 (fun v9x wE2 ho9x hg9x => ?_)
              have hlt8 := fun g e => (ho8.lt g e)
              have hbE2 : Below wy.heap.size wy wE2 := hbE.grown hg9x (by have := hbE.size; omega) (fun j e => by have := (hlt8 j e).1; omega)
              refine hK.out _ _ ⟨Ytnpjclodcgejgaa.kept hbE2 hq1, Ytnpjclodcgejgaa.kept hbE2 hq2⟩ (fun HS => ?_)
              clear hK K'
              (try simp only [Act.put, List.getElem_toArray, List.getElem_cons_zero, List.getElem_cons_succ, List.setIfInBounds_toArray, List.set_cons_zero, List.set_cons_succ])
              (refine wpAnyH_take (i := 12) (v := ?_) rfl (by kernel_rfl) (by kernel_rfl) (by kernel_rfl) (fun _ _ _ h => h) (Or.inl ⟨by rfl, ?ht_12⟩) HS ?_); (case ht_12 => (intro wt hS; go_simp; try with_reducible rfl)); (try simp only [Act.put, List.getElem_toArray, List.getElem_cons_zero, List.getElem_cons_succ, List.setIfInBounds_toArray, List.set_cons_zero, List.set_cons_succ]); (refine wpAnyH_take (i := 13) (v := ?_) rfl (by kernel_rfl) (by kernel_rfl) (by kernel_rfl) (fun _ _ _ h => h) (Or.inl ⟨by rfl, ?ht_13⟩) HS ?_); (case ht_13 => (intro wt hS; go_simp; try with_reducible rfl)); (try simp only [Act.put, List.getElem_toArray, List.getElem_cons_zero, List.getElem_cons_succ, List.setIfInBounds_toArray, List.set_cons_zero, List.set_cons_succ])
              have ho10y := own_below hbE2 ho10
              have hgt := cells_of_own ho10y
              obtain ⟨curw, hgw, hszw⟩ := hgt
              have cw := cellF hgw
              have fw := (cells_of hgw).2.1
              obtain ⟨vold, hvold⟩ : ∃ v, curw[k * 29 + 28]? = some v := ⟨_, Array.getElem?_eq_getElem (by have := mul_in (n := n) (c := 29) (i := k) (j := 28) hk (by omega); omega)⟩
              obtain ⟨⟨a8, c8, rfl⟩, hst8, hbst⟩ := grow_fin HS0.out HO.out HB.out HA0.out (below_then hby hbE2) hk hw4 ho10y ho9x
              have hne1 : g ≠ gw := by have := (Array.getElem?_eq_some_iff.1 HGL.out).1; omega
              have hne2 : W.heap.size ≠ gw := by omega
              (refine wpAnyH_ready (rs := [14]) (by kernel_rfl) (by decide) ?_); (refine AllReadyH.cons rfl (fun K' hK => ?_) AllReadyH.nil); (rw [if_pos (by rfl)])
              go_simp
              refine hK.out _ _ ⟨heap_set_other HS.1 hne1, heap_set_other HS.2 hne2⟩ (fun HS => ?_)
              clear hK K' cw fw
              (try simp only [Act.put, List.getElem_toArray, List.getElem_cons_zero, List.getElem_cons_succ, List.setIfInBounds_toArray, List.set_cons_zero, List.set_cons_succ])
              refine wpAnyH_done (by kernel_rfl) ?_ _
              have hN9 := heap_set_other (g := gw) (i := k * 29 + 28) (v := .slice a8 (m k + 1) c8) (Ytnpjclodcgejgaa.kept hbE2 hNy) (show w1.heap.size ≠ gw by omega)
              obtain ⟨wz, hwz⟩ : ∃ wz, wz = wE2.setCell ⟨gw, k * 29 + 28, none⟩ (.slice a8 (m k + 1) c8) := ⟨_, rfl⟩
              rw [← hwz] at hst8 hbst hN9
              rw [← hwz]
              clear hwz
              have cm3 := need_any _ _ _ _ n c10 wz (fun i => stk_wide (k := k) (v := .slice a8 (m k + 1) c8) HS0.out ⟨_, _, _, rfl⟩ i) (ok1_ord (k := k) (m := m) HO.out HB.out) hst8 (by omega)
              obtain ⟨q1, q2, q3, q4⟩ := need_wide (k := k) (v := .slice a8 (m k + 1) c8) (O := Ok1 O m k B) (m := mk1 m k) HS0.out n
              rw [show need (wideS S k (.slice a8 (m k + 1) c8)) (Ok1 O m k B) (mk1 m k) n = r3 (nM S (Ok1 O m k B) (mk1 m k) n) (nW S (Ok1 O m k B) (mk1 m k) n) (nU S (Ok1 O m k B) (mk1 m k) n) by rw [← q2, ← q3, ← q4]; rfl, q1] at cm3
              have hmore := need_more (k := k) (x := B) HS0.out HE.out
              have HMORE := Lib.hid hmore
              clear hmore q1 q2 q3 q4 hst8
              have HN9 := Lib.hid hN9
              by_cases hg0 : nE S (Ok1 O m k B) (mk1 m k) n = 0
              · obtain ⟨r1, r2, r3'⟩ := HMORE.out hg0
                rw [r1, r2, ← HM.out, ← HU.out, hg0] at cm3
                rw [← HV.out] at r3'
                generalize nW S (Ok1 O m k B) (mk1 m k) n = V2 at *
                clear r1 r2 hg0 HMORE
                have dV : ¬ V2 < V := by omega
                go_wp2_with fail
                refine cm3.mono ?_
                clear cm3
                rintro e w8 ⟨rfl, hb8z⟩
                have hN10 := heap_up (o := Obj.cells (r3 M V2 U) 35) (Ytnpjclodcgejgaa.kept hb8z HN9.out)
                have hM10 := heap_alloc_new w8 (Obj.cells (r3 M V2 U) 35)
                have cN := cellF hN10
                have cM := cellF hM10
                have z0 : (r3 M V U)[0]? = some (.int .i64 M) := rfl
                have z1 : (r3 M V U)[1]? = some (.int .i64 V) := rfl
                have z2 : (r3 M V U)[2]? = some (.int .i64 U) := rfl
                have y0 : (r3 M V2 U)[0]? = some (.int .i64 M) := rfl
                have y1 : (r3 M V2 U)[1]? = some (.int .i64 V2) := rfl
                have y2 : (r3 M V2 U)[2]? = some (.int .i64 U) := rfl
                have hbz := below_alloc (below_then hbst hb8z) (Obj.cells (r3 M V2 U) 35)
                go_wp2_with (first | ((with_reducible refine at_alloc 35 ?_); refine wpList_alloc_named rfl 35 rfl (r3 0 0 0) (by kernel_rfl) ?_) | ((with_reducible refine at_store 35 ?_); refine wpList_store_new rfl 35 _ _ rfl (r3 M V2 U) _ _ _ rfl (by simp) rfl (by rw [r3_size _ _ _]; kernel_rfl) (by rw [r3_size _ _ _]; rfl) (r3_all _ _ _) ?_) | (go_at_call 13; (with_reducible refine (known11 _).mono ?_); rintro e w5 ⟨rfl, hb5⟩))
                go_ret
                exact ⟨rfl, below_then hbz hb5⟩
              · generalize nM S (Ok1 O m k B) (mk1 m k) n = M3 at *
                generalize nW S (Ok1 O m k B) (mk1 m k) n = V3 at *
                generalize nU S (Ok1 O m k B) (mk1 m k) n = U3 at *
                generalize nE S (Ok1 O m k B) (mk1 m k) n = E3 at *
                clear HMORE
                go_wp2_with fail
                refine cm3.mono ?_
                clear cm3
                rintro e w8 ⟨rfl, hb8z⟩
                have hbz := below_alloc (below_then hbst hb8z) (Obj.cells (r3 M3 V3 U3) 35)
                go_wp2_with (first | ((with_reducible refine at_alloc 35 ?_); refine wpList_alloc_named rfl 35 rfl (r3 0 0 0) (by kernel_rfl) ?_) | ((with_reducible refine at_store 35 ?_); refine wpList_store_new rfl 35 _ _ rfl (r3 M3 V3 U3) _ _ _ rfl (by simp) rfl (by rw [r3_size _ _ _]; kernel_rfl) (by rw [r3_size _ _ _]; rfl) (r3_all _ _ _) ?_) | (go_at_call 13; (with_reducible refine (known11 _).mono ?_); rintro e w5 ⟨rfl, hb5⟩))
                go_ret
                exact ⟨rfl, below_then hbz hb5⟩
          · go_wp2_with (first | ((with_reducible refine at_alloc 35 ?_); refine wpList_alloc_named rfl 35 rfl (r3 0 0 0) (by kernel_rfl) ?_) | ((with_reducible refine at_store 35 ?_); refine wpList_store_new rfl 35 _ _ rfl (r3 M 0 U) _ _ _ rfl (by simp) rfl (by rw [r3_size _ _ _]; kernel_rfl) (by rw [r3_size _ _ _]; rfl) (r3_all _ _ _) ?_) | ((with_reducible refine at_build 35 ?_); refine wpList_build_named rfl 35 _ rfl (r3 M 0 U) (by kernel_rfl) ?_) | ((with_reducible refine at_load 35 ?_); refine wpList_load_part rfl 35 _ rfl (w6.heap.size) (0) rfl _ (r3 M 0 U) _ _ 3 (hM7) Try.underlying35 rfl (by kernel_rfl) (by rw [r3_size]; omega) (r3 M 0 U) (extract_all (r3_size _ _ _)) ?_) | (go_at_call 13; (with_reducible refine (known11 _).mono ?_); rintro e w8 ⟨rfl, hb8⟩))
            go_ret
            exact ⟨rfl, below_then hbw7 hb8⟩
    · have he := fun w => show (binOp .eql 35 (.agg (r3 0 0 0)) (.agg (r3 0 0 0))).run Try.prog w = .ok (.bool true) w by rw [run_eql_struct, eq_need (by unfold F64; omega) (by unfold F64; omega) (by unfold F64; omega)]; rfl
      obtain ⟨R, hR⟩ : ∃ R, R = r3 0 0 0 := ⟨_, rfl⟩
      rw [show need S O m n = R from (need_not hE).trans hR.symm] at cm
      rw [← hR] at he
      generalize nE S O m n = en at *
      have HRR := Lib.hid hR
      have HR3 := Lib.hid (show R.size = 3 by rw [hR]; rfl)
      have HRa := Lib.hid (show R.all (·.oneCell') = true by rw [hR]; exact r3_all _ _ _)
      clear hR
      go_wp2_with fail
      refine cm.mono ?_
      clear cm
      rintro e w1 ⟨rfl, hb1⟩
      have hN := heap_alloc_new w1 (Obj.cells R 35)
      have hbw := below_alloc (below_then hb0 hb1) (Obj.cells R 35)
      go_wp2_with (first | ((with_reducible refine at_alloc 35 ?_); refine wpList_alloc_named rfl 35 rfl (r3 0 0 0) (by kernel_rfl) ?_) | ((with_reducible refine at_store 35 ?_); refine wpList_store_new rfl 35 _ _ rfl (R) _ _ _ rfl (by simp) rfl (by rw [HR3.out]; kernel_rfl) (by rw [HR3.out]; rfl) (HRa.out) ?_) | ((with_reducible refine at_build 35 ?_); refine wpList_build_named rfl 35 _ rfl R (by rw [HRR.out]; kernel_rfl) ?_) | ((with_reducible refine at_load 35 ?_); refine wpList_load_part rfl 35 _ rfl (w1.heap.size) (0) rfl _ (R) _ _ 3 (hN) Try.underlying35 rfl (by kernel_rfl) (by rw [HR3.out]; omega) (R) (extract_all HR3.out) ?_) | (go_at_call 13; (with_reducible refine (known11 _).mono ?_); rintro e w5 ⟨rfl, hb5⟩))
      go_ret
      exact ⟨rfl, below_then hbw hb5⟩
  · clear hbf
    go_wp2_with (first | (go_at_call 13; (with_reducible refine (known11 _).mono ?_); rintro e w5 ⟨rfl, hb5⟩))
    go_ret
    exact ⟨rfl, below_then hb0 hb5⟩
end Go.Proofs.Ytnpjclodcgejgaa
