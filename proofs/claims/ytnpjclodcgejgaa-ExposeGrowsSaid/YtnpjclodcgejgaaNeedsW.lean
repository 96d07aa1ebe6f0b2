/- The statement ExposeNeeds returns true, whatever comes in. No condition but that the numbers fit their kinds. -/
import Derived.Test.YtnpjclodcgejgaaNeedR
import Derived.Test.YtnpjclodcgejgaaSeqs
namespace Go.Proofs.Ytnpjclodcgejgaa
set_option linter.unusedVariables false
set_option linter.unusedSimpArgs false
open Go.RowKit

theorem own_empty5 (W : World) (e : TypeId) : (W.alloc (.cells #[] e)).ownsRow W.heap.size e 5 (.slice (some ⟨W.heap.size, 0, none⟩) 0 0) 0 [] :=
  ⟨rfl, .inr ⟨W.heap.size, 0, #[], rfl, Nat.le_refl _, heap_alloc_new _ _, Nat.le_refl _, by unfold maxLen; omega, rfl, rfl⟩⟩
/-- stakes with other lists of orders -/
def cp (S : Nat → Array Value) (xv : Nat → Value) : Nat → Array Value := fun i => (S i).setIfInBounds 28 (xv i)
theorem stk_cp {A : Array Value} {v : Value} (h : IsStk A) (hv : ∃ a n c, v = .slice a n c) : IsStk (A.setIfInBounds 28 v) := by
  have hs := h.size
  have hN : ∀ i, i ≠ 28 → N (A.setIfInBounds 28 v) i = N A i := fun i hi => by rw [N_set (by omega), if_neg (by omega)]
  refine ⟨by simp [hs], by rw [extract_set_out (by omega)]; exact h.leg, ?_, ?_, ?_⟩
  · have h1 := h.b
    unfold IsN at h1 ⊢
    rw [hN 26 (by omega), Array.getElem?_setIfInBounds_ne (by omega)]
    exact h1
  · have h1 := h.p
    unfold IsN at h1 ⊢
    rw [hN 27 (by omega), Array.getElem?_setIfInBounds_ne (by omega)]
    exact h1
  · obtain ⟨a, n, c, rfl⟩ := hv
    exact ⟨a, n, c, Array.getElem?_setIfInBounds_self_of_lt (by omega)⟩
theorem okK_cp {A : Array Value} {v : Value} {O : Nat → Array Value} {n : Nat} (hs : A.size = 29) : okK (A.setIfInBounds 28 v) O n = okK A O n := by
  have hN : ∀ i, i ≠ 28 → N (A.setIfInBounds 28 v) i = N A i := fun i hi => by rw [N_set (by omega), if_neg (by omega)]
  unfold okK
  rw [extract_set_out (by omega), hN 25 (by omega), hN 26 (by omega), hN 27 (by omega), hN 2 (by omega)]
theorem kw_cp {A : Array Value} {v : Value} {O : Nat → Array Value} {n : Nat} (hs : A.size = 29) : kw (A.setIfInBounds 28 v) O n = kw A O n := by
  have hN : ∀ i, i ≠ 28 → N (A.setIfInBounds 28 v) i = N A i := fun i hi => by rw [N_set (by omega), if_neg (by omega)]
  unfold kw
  rw [extract_set_out (by omega), hN 25 (by omega), hN 27 (by omega)]
theorem ku_cp {A : Array Value} {v : Value} (hs : A.size = 29) : ku (A.setIfInBounds 28 v) = ku A := by
  have hN : ∀ i, i ≠ 28 → N (A.setIfInBounds 28 v) i = N A i := fun i hi => by rw [N_set (by omega), if_neg (by omega)]
  unfold ku
  rw [hN 25 (by omega), hN 26 (by omega), hN 27 (by omega)]
theorem lg_cp (S : Nat → Array Value) (xv : Nat → Value) : lg (cp S xv) = lg S := by
  funext i
  unfold lg cp
  rw [extract_set_out (by omega)]
theorem okKs_cp {S : Nat → Array Value} {xv : Nat → Value} {O : Nat → Nat → Array Value} {m : Nat → Nat} (hS : ∀ i, IsStk (S i)) : ∀ n, okKs (cp S xv) O m n = okKs S O m n
  | 0 => rfl
  | n + 1 => by rw [okKs_s, okKs_s, okKs_cp hS n, show cp S xv n = (S n).setIfInBounds 28 (xv n) from rfl, okK_cp (hS n).size]
theorem sW_cp {S : Nat → Array Value} {xv : Nat → Value} {O : Nat → Nat → Array Value} {m : Nat → Nat} (hS : ∀ i, IsStk (S i)) : ∀ n, sW (cp S xv) O m n = sW S O m n
  | 0 => rfl
  | n + 1 => by rw [sW, sW, sW_cp hS n, show cp S xv n = (S n).setIfInBounds 28 (xv n) from rfl, kw_cp (hS n).size]
theorem sU_cp {S : Nat → Array Value} {xv : Nat → Value} (hS : ∀ i, IsStk (S i)) : ∀ n, sU (cp S xv) n = sU S n
  | 0 => rfl
  | n + 1 => by rw [sU, sU, sU_cp hS n, show cp S xv n = (S n).setIfInBounds 28 (xv n) from rfl, ku_cp (hS n).size]
theorem need_cp {S : Nat → Array Value} {xv : Nat → Value} {O : Nat → Nat → Array Value} {m : Nat → Nat} (hS : ∀ i, IsStk (S i)) (n : Nat) : nE (cp S xv) O m n = nE S O m n ∧ need (cp S xv) O m n = need S O m n := by
  have h : nE (cp S xv) O m n = nE S O m n := by
    unfold nE
    rw [okKs_cp hS, lg_cp]
  refine ⟨h, ?_⟩
  unfold need nM nW nU
  rw [h, lg_cp, sW_cp hS, sU_cp hS]
theorem need_F {S : Nat → Array Value} {O : Nat → Nat → Array Value} {m : Nat → Nat} {n : Nat} (hS : ∀ i, IsStk (S i)) : F64 (nM S O m n) ∧ F64 (nW S O m n) ∧ F64 (nU S O m n) := by
  unfold F64
  by_cases h : nE S O m n = 0
  · obtain ⟨h1, h2, h3⟩ := nE_zero h
    have hb := s_bd hS n h2
    have hm := sum_bd (lgs hS) n (okKs_ok hS n h2) h1 9
    unfold nM nW nU
    rw [if_pos h, if_pos h, if_pos h]
    omega
  · unfold nM nW nU
    rw [if_neg h, if_neg h, if_neg h]
    omega
theorem flat_cp {S : Nat → Array Value} {xv : Nat → Value} {k : Nat} {v : Value} : flat (cp S (fun i => if i = k then v else xv i)) (k + 1) = flat (cp S xv) k ++ ((S k).setIfInBounds 28 v).toList := by
  rw [flat, flat_congr (L := cp S (fun i => if i = k then v else xv i)) (L' := cp S xv) k (fun i hi => by unfold cp; simp only; rw [if_neg (by omega)])]
  unfold cp
  simp

/-- the copies of the first k -/
structure Cps (w : World) (xv : Nat → Value) (m : Nat → Nat) (O : Nat → Nat → Array Value) (k : Nat) : Prop where
  sl : ∀ j, ∃ a n c, xv j = .slice a n c
  at_ : ∀ j, j < k → ∃ a c, xv j = .slice a (m j) c ∧ RowsT w 41 5 a (m j) (O j) ∧ m j ≤ c ∧ c ≤ 9223372036854775807 ∧ (a = none → m j = 0 ∧ c = 0)
theorem Cps.kept {w w' : World} {xv : Nat → Value} {m : Nat → Nat} {O : Nat → Nat → Array Value} {k : Nat} (h : Cps w xv m O k) (hb : Below w.heap.size w w') : Cps w' xv m O k :=
  ⟨h.sl, fun j hj => by
    obtain ⟨a, c, h1, h2, h3⟩ := h.at_ j hj
    exact ⟨a, c, h1, rowsT_kept h2 hb, h3⟩⟩
theorem Cps.grown {w w' : World} {xv : Nat → Value} {m : Nat → Nat} {O : Nat → Nat → Array Value} {k : Nat} {row : Option Nat} (h : Cps w xv m O k) (hg : w.grownBy w' row) (hr : ∀ g, row = some g → ∃ A fr, w.heap[g]? = some (.cells A 33 fr)) : Cps w' xv m O k :=
  ⟨h.sl, fun j hj => by
    obtain ⟨a, c, h1, h2, h3⟩ := h.at_ j hj
    exact ⟨a, c, h1, rowsT_grown h2 hg hr (by decide), h3⟩⟩
theorem Cps.more {w : World} {xv : Nat → Value} {m : Nat → Nat} {O : Nat → Nat → Array Value} {k : Nat} (h : Cps w xv m O k) {base : Nat} {v : Value} (hO : ∀ i, IsOrd (O k i)) (ho : w.ownsRow base 41 5 v (m k) (flat (O k) (m k))) : Cps w (fun i => if i = k then v else xv i) m O (k + 1) := by
  obtain ⟨a, c, rfl, h1, h2, h3, h4⟩ := own_rows (fun i => (hO i).size) ho
  refine ⟨fun j => ?_, fun j hj => ?_⟩
  · split
    · exact ⟨_, _, _, rfl⟩
    · exact h.sl j
  · by_cases e : j = k
    · subst e
      rw [if_pos rfl]
      exact ⟨a, c, rfl, h1, h2, h3, h4⟩
    · rw [if_neg e]
      exact h.at_ j (by omega)
theorem Cps.stks {w : World} {S : Nat → Array Value} {xv : Nat → Value} {m : Nat → Nat} {O : Nat → Nat → Array Value} {n : Nat} {a : Option Addr} (h : Cps w xv m O n) (hS : ∀ i, IsStk (S i)) (hr : RowsT w 33 29 a n (cp S xv)) : Stks w a n (cp S xv) O m where
  at_ := fun i hi => by
    obtain ⟨g, off, A, fr, h1, h2, h3⟩ := hr i hi
    exact ⟨g, off, A, _, fr, h1, h2, h3⟩
  or := fun i hi => by
    obtain ⟨a, c, h1, h2, h3⟩ := h.at_ i hi
    refine ⟨a, c, ?_, fun k hk => ?_, h3⟩
    · unfold cp
      rw [Array.getElem?_setIfInBounds_self_of_lt (by rw [(hS i).size]; omega), h1]
    · obtain ⟨g, off, A, fr, h4, h5, h6⟩ := h2 k hk
      exact ⟨g, off, A, _, fr, h4, h5, h6⟩

set_option maxRecDepth 100000 in
set_option maxHeartbeats 4000000 in
theorem needs_walk (a : Option Addr) (n cap : Nat) (S : Nat → Array Value) (O : Nat → Nat → Array Value) (m : Nat → Nat) (W : World) (hS : ∀ i, IsStk (S i)) (hO : ∀ i k, IsOrd (O i k)) (hA : Stks W a n S O m) (hn : n ≤ cap) (hc : cap ≤ 9223372036854775807) (hz : a = none → n = 0 ∧ cap = 0) :
    Calls Try.prog 3 #[.slice a n cap] W fun e W' => e = .returned (.bool true) ∧ Below W.heap.size W W' := by
  have cl := large_any S O m a n cap W hA (by omega)
  have HS := Lib.hid hS
  have HO := Lib.hid hO
  have HA := Lib.hid hA
  clear hS hO hA
  go_enter Try.func3, Try.ntmps3
  go_wp2_with fail
  refine cl.mono ?_
  clear cl
  rintro e w' ⟨⟨b, rfl, hbf⟩, rfl⟩
  cases b
  · obtain ⟨h40, h300⟩ := hbf rfl
    have H300 := Lib.hid h300
    clear hbf h300
    go_wp2
    go_loopg [3, 17] n (fun gh x i wr => ∃ (k : Nat) (v : Value) (xv : Nat → Value), k ≤ n ∧ gh = n - k ∧ i = .int .i64 k ∧ v = x ∧ Cps wr xv m O k ∧ wr.ownsRow W.heap.size 33 29 v k (flat (cp S xv) k) ∧ Below W.heap.size W wr)
    case atStart => exact ⟨0, _, fun _ => .slice none 0 0, by omega, by omega, rfl, rfl, ⟨fun _ => ⟨_, _, _, rfl⟩, fun j hj => by omega⟩, World.ownsRow_nil _ _ _ _, Below.refl _ _⟩
    case round =>
      obtain ⟨k, v, xv, hk, rfl, rfl, rfl, hcp, hoa, hb⟩ := hrel
      have hbs := hb.size
      by_cases hlt : k < n
      · obtain ⟨g, off, A, t, fr, rfl, hgW, hszA, hexA⟩ := HA.out.at_ k hlt
        obtain ⟨ad, c, h28, hord, hmc, hcc, hnil⟩ := HA.out.or k hlt
        have hgA := kept hb hgW
        have hst := HS.out k
        have HEX := Lib.hid hexA
        have HZ := Lib.hid hszA
        have a28 : A[off + k * 29 + 28]? = some (.slice ad (m k) c) := by rw [at_ext29 hexA hszA (by omega)]; exact h28
        have hs29 := Lib.hid hst.size
        have hmk := H300.out k hlt
        have HOR := Lib.hid (hord.kept hb)
        clear hexA hszA hord
        have hgA1 := heap_up (o := Obj.cells (S k) 33) hgA
        have hgA2 := heap_up (o := Obj.cells #[] 41) hgA1
        have cA2 := cellF hgA2
        have hk2 := heap_up (o := Obj.cells #[] 41) (heap_alloc_new wr (Obj.cells (S k) 33))
        have hE5 := own_empty5 (wr.alloc (Obj.cells (S k) 33)) 41
        rw [show (wr.alloc (Obj.cells (S k) 33)).heap.size = wr.heap.size + 1 by simp] at hE5
        have hb2 := below_alloc (below_new wr (Obj.cells (S k) 33)) (Obj.cells #[] 41)
        have hoa2 := (hoa.alloc (Obj.cells (S k) 33)).alloc (Obj.cells #[] 41)
        have hvo : v.ownBlock = none ∨ v.ownBlock ≠ some (wr.heap.size + 1) := by
          cases h : v.ownBlock with
          | none => exact .inl rfl
          | some g => exact .inr (fun e => by injection e with e; have := (hoa.lt g h).2; omega)
        have hvo2 : v.ownBlock ≠ some wr.heap.size := fun e => by have := (hoa.lt _ e).2; omega
        go_wp2_with (first | ((with_reducible refine at_load 33 ?_); refine wpList_load_part rfl 33 _ rfl (g) ((off + k * 29)) rfl _ (A) _ _ 29 (hgA) Try.underlying33 rfl (by kernel_rfl) (by have := HZ.out; omega) (S k) (HEX.out) ?_) | ((with_reducible refine at_alloc 33 ?_); refine wpList_alloc_named rfl 33 rfl (z29) (by kernel_rfl) ?_) | ((with_reducible refine at_store 33 ?_); refine wpList_store_new rfl 33 _ _ rfl (S k) _ _ _ rfl (by simp) rfl (by rw [hst.size]; kernel_rfl) (by rw [hst.size]; rfl) (hst.all) ?_) | ((with_reducible refine at_append 31 ?_); refine wpList_append_ords rfl _ _ rfl (wr.heap.size + 1) _ rfl hE5 ad (m k) c (O k) (HO.out k) rfl (HOR.out.kept hb2) hnil (by omega) (by simp) ?_; intro v2 w2 ho2 hg2; obtain ⟨a2, c2, rfl, hr2⟩ := own_rows (fun i => (HO.out k i).size) ho2; have hk3 := (hg2.block wr.heap.size (by simp; try omega) (fun e => by injection e with e; simp at e)).trans hk2; obtain ⟨ck3, fk3, _⟩ := cells_of hk3; have hs2 : wr.heap.size + 2 ≤ w2.heap.size := by simpa using hg2.size) | ((with_reducible refine at_load 33 ?_); refine wpList_load_part rfl 33 _ rfl (wr.heap.size) (0) rfl _ ((S k).setIfInBounds 28 (.slice a2 (m k) c2)) _ _ 29 (heap_set hk3) Try.underlying33 rfl (by kernel_rfl) (by simp [hs29.out]) ((S k).setIfInBounds 28 (.slice a2 (m k) c2)) (extract_all (by simp [hs29.out])) ?_) | ((with_reducible refine at_slice1 22 ?_); refine wpList_slice_stk rfl _ rfl ((S k).setIfInBounds 28 (.slice a2 (m k) c2)) rfl (by simp [hs29.out]) ?_) | ((with_reducible refine at_append 22 ?_); refine wpList_append_stk rfl _ _ rfl W.heap.size v k _ rfl ((ownsRow_setCell_other (hoa2.kept hg2 hvo) (a := ⟨wr.heap.size, 28, none⟩) hvo2 (.slice a2 (m k) c2)).alloc (Obj.cells ((S k).setIfInBounds 28 (.slice a2 (m k) c2)) 33)) _ ((S k).setIfInBounds 28 (.slice a2 (m k) c2)) (stk_cp hst ⟨_, _, _, rfl⟩) rfl (heap_new (by simp)) (by omega) (by simp; omega) ?_; intro v5 w5 ho5 hg5))
        all_goals
          go_roundg (n - (k + 1))
          case measure => omega
          case rel =>
            have hrow : ∀ j, (Value.slice (some ⟨wr.heap.size + 1, 0, none⟩) 0 0).ownBlock = some j → wr.heap.size ≤ j := fun j hj => by
              have e : wr.heap.size + 1 = j := Option.some.inj hj
              omega
            have hB2 : Below wr.heap.size wr w2 := hb2.grown hg2 (by simp; try omega) hrow
            have hB4 := below_alloc (below_set (g := wr.heap.size) (i := 28) (v := .slice a2 (m k) c2) hB2 (Nat.le_refl _)) (Obj.cells ((S k).setIfInBounds 28 (.slice a2 (m k) c2)) 33)
            have ho4 := (ownsRow_setCell_below ho2 (a := ⟨wr.heap.size, 28, none⟩) (by simp) (.slice a2 (m k) c2)).alloc (Obj.cells ((S k).setIfInBounds 28 (.slice a2 (m k) c2)) 33)
            have hoa5 := (ownsRow_setCell_other (hoa2.kept hg2 hvo) (a := ⟨wr.heap.size, 28, none⟩) hvo2 (.slice a2 (m k) c2)).alloc (Obj.cells ((S k).setIfInBounds 28 (.slice a2 (m k) c2)) 33)
            exact ⟨k + 1, v5, _, by omega, rfl, by go_num, rfl, ((hcp.kept hB4).more (HO.out k) ho4).grown hg5 (own_tag hoa5), by rw [flat_cp]; exact ho5, (below_then hb hB4).grown hg5 (by simp; omega) (fun j hj => (hoa.lt j hj).1)⟩
      · obtain rfl : k = n := by omega
        obtain ⟨wz, hwz⟩ : ∃ wz, wz = wr := ⟨_, rfl⟩
        subst hwz
        obtain ⟨a1, c1, rfl, hr1, hn1, hc1, hz1⟩ := own_rows (fun i => by unfold cp; simp [(HS.out i).size]) hoa
        have hst1 := hcp.stks HS.out hr1
        obtain ⟨ne1, ne2⟩ := need_cp (S := S) (xv := xv) (O := O) (m := m) HS.out k
        have cm := need_any (cp S xv) O m a1 k c1 wz (fun i => stk_cp (HS.out i) (hcp.sl i)) HO.out hst1 (by omega)
        rw [ne1, ne2] at cm
        have cr := fun w' hb' => rneed_any S O m a k cap w' HS.out HO.out (HA.out.kept hb') (by omega)
        obtain ⟨f1, f2, f3⟩ := need_F (S := S) (O := O) (m := m) (n := k) HS.out
        have he := fun w => show (binOp .eql 35 (.agg (need S O m k)) (.agg (need S O m k))).run Try.prog w = .ok (.bool true) w by rw [run_eql_struct, show need S O m k = r3 (nM S O m k) (nW S O m k) (nU S O m k) from rfl, eq_need f1 f2 f3]; rfl
        have HR3 := Lib.hid (show (need S O m k).size = 3 from rfl)
        have HRa := Lib.hid (show (need S O m k).all (·.oneCell') = true from r3_all _ _ _)
        have HST := Lib.hid hst1
        have HCP := Lib.hid hcp
        clear ne1 ne2 f1 f2 f3 hst1 hcp hoa hr1
        generalize need S O m k = R at *
        generalize nE S O m k = en at *
        have HX := Lib.hid (extract_all HR3.out)
        go_wp2_with fail
        refine cm.mono ?_
        clear cm
        rintro e w1 ⟨rfl, hb1⟩
        have hW1 := below_alloc (below_then hb hb1) (Obj.cells R 35)
        have hg6 := heap_alloc_new w1 (Obj.cells R 35)
        go_wp2_with (first | ((with_reducible refine at_alloc 35 ?_); refine wpList_alloc_named rfl 35 rfl (r3 0 0 0) (by kernel_rfl) ?_) | ((with_reducible refine at_store 35 ?_); refine wpList_store_new rfl 35 _ _ rfl (R) _ _ _ rfl (by simp) rfl (by rw [HR3.out]; kernel_rfl) (by rw [HR3.out]; rfl) (HRa.out) ?_) | (go_at_call 15; (with_reducible refine (cr _ hW1).mono ?_); rintro e w2 ⟨rfl, hb2⟩; have hg62 := kept hb2 hg6; have hg63 := heap_up (o := Obj.cells R 35) hg62; have hg8 := heap_alloc_new w2 (Obj.cells R 35)))
        have hBr := below_alloc (below_then (below_alloc hb1 (Obj.cells R 35)) hb2) (Obj.cells R 35)
        go_loopg [49] k (fun gh i wx => ∃ j : Nat, j ≤ k ∧ gh = k - j ∧ i = .int .i64 j ∧ wx.heap[w1.heap.size]? = some (.cells R 35 (0, 0)) ∧ wx.heap[w2.heap.size]? = some (.cells R 35 (0, 0)) ∧ Below wz.heap.size wz wx)
        case atStart => exact ⟨0, by omega, by omega, rfl, hg63, hg8, hBr⟩
        case round =>
          clear hg63 hg8 hBr hg6 hg62 hW1 hb1 hb2 cr
          obtain ⟨j, hj, rfl, rfl, hg6, hg8, hbx⟩ := hrel
          by_cases hlt2 : j < k
          · obtain ⟨g1, off1, A1, t1, fr1, rfl, hg1, hsz1, hex1⟩ := HST.out.at_ j hlt2
            obtain ⟨g, off, A, t, fr, rfl, hgA, hszA, hexA⟩ := (HA.out.kept hb).at_ j hlt2
            obtain ⟨ad2, c2, s28, hord2, hmc2, hcc2, hnil2⟩ := HST.out.or j hlt2
            obtain ⟨ad, c, h28, hord, hmc, hcc, hnil⟩ := (HA.out.kept hb).or j hlt2
            have HX1 := Lib.hid (show A1.extract (off1 + j * 29) (off1 + j * 29 + 26) = lg S j by rw [ext26 hex1 hsz1]; exact congrFun (lg_cp S xv) j)
            have HXA := Lib.hid (show A.extract (off + j * 29) (off + j * 29 + 26) = lg S j from ext26 hexA hszA)
            have b1 : A1[off1 + j * 29 + 26]? = some (.int .i64 (N (S j) 26)) := by rw [at_ext29 hex1 hsz1 (by omega)]; unfold cp; rw [Array.getElem?_setIfInBounds_ne (by omega)]; exact (HS.out j).b.1
            have p1 : A1[off1 + j * 29 + 27]? = some (.int .i64 (N (S j) 27)) := by rw [at_ext29 hex1 hsz1 (by omega)]; unfold cp; rw [Array.getElem?_setIfInBounds_ne (by omega)]; exact (HS.out j).p.1
            have o1 : A1[off1 + j * 29 + 28]? = some (.slice ad2 (m j) c2) := by rw [at_ext29 hex1 hsz1 (by omega)]; exact s28
            have ab : A[off + j * 29 + 26]? = some (.int .i64 (N (S j) 26)) := by rw [at_ext29 hexA hszA (by omega)]; exact (HS.out j).b.1
            have ap : A[off + j * 29 + 27]? = some (.int .i64 (N (S j) 27)) := by rw [at_ext29 hexA hszA (by omega)]; exact (HS.out j).p.1
            have ao : A[off + j * 29 + 28]? = some (.slice ad (m j) c) := by rw [at_ext29 hexA hszA (by omega)]; exact h28
            have hne := neq_leg (lgs HS.out j)
            have HZ1 := Lib.hid hsz1
            have HZA := Lib.hid hszA
            have HO2 := Lib.hid hord2
            have HO1 := Lib.hid hord
            clear hex1 hexA hsz1 hszA s28 h28 hord2 hord
            generalize N (S j) 26 = b at *
            generalize N (S j) 27 = p at *
            generalize lg S j = Lj at *
            have hg1x := kept hbx hg1
            have hgAx := kept hbx hgA
            go_wp2
            refine wp_region_below (by kernel_rfl) (by kernel_rfl) ?_
            repeat (first | ((with_reducible apply q_skip); (case hw => rfl); (try simp only [Act.put, List.setIfInBounds_toArray, List.set_cons_zero, List.set_cons_succ])) | ((with_reducible refine at_qload 30 ?_); refine q_load_fr (by rfl) 30 _ rfl (g1) ((off1 + j * 29)) rfl _ (A1) _ _ 26 (hg1x) Try.underlying30 rfl (by kernel_rfl) (by have := HZ1.out; omega) (Lj) (HX1.out) ?_; try simp only [Act.put, List.setIfInBounds_toArray, List.set_cons_zero, List.set_cons_succ]) | ((with_reducible refine at_qload 30 ?_); refine q_load_fr (by rfl) 30 _ rfl (g) ((off + j * 29)) rfl _ (A) _ _ 26 (hgAx) Try.underlying30 rfl (by kernel_rfl) (by have := HZA.out; omega) (Lj) (HXA.out) ?_; try simp only [Act.put, List.setIfInBounds_toArray, List.set_cons_zero, List.set_cons_succ]) | ((with_reducible apply q_val); (case hw => rfl); (case hv => intro wq hbq; have hcq := cellF (Ytnpjclodcgejgaa.kept hbq hg1x); have hcr := cellF (Ytnpjclodcgejgaa.kept hbq hgAx); go_simp; try rfl); (try simp only [Act.put, List.setIfInBounds_toArray, List.set_cons_zero, List.set_cons_succ])))
            refine q_nil ?_
            intro w6 hb6
            have hg66 := Ytnpjclodcgejgaa.kept hb6 hg6
            have hg86 := Ytnpjclodcgejgaa.kept hb6 hg8
            have hb16 := below_then hbx hb6
            have c16 := cellF (Ytnpjclodcgejgaa.kept hb6 hg1x)
            go_wp2
            go_loopg [95] (m j) (fun gh i wy => ∃ r : Nat, r ≤ m j ∧ gh = m j - r ∧ i = .int .i64 r ∧ wy.heap[w1.heap.size]? = some (.cells R 35 (0, 0)) ∧ wy.heap[w2.heap.size]? = some (.cells R 35 (0, 0)) ∧ Below wz.heap.size wz wy)
            case atStart => exact ⟨0, by omega, by omega, rfl, hg66, hg86, hb16⟩
            case round =>
              clear hg66 hg86 hb16 c16 hb6 hg1x hgAx hg6 hg8 hbx hne b1 p1 ab ap HX1 HXA
              obtain ⟨r, hr, rfl, rfl, hg6, hg8, hby⟩ := hrel
              by_cases hlt3 : r < m j
              · obtain ⟨go, offo, B, tyo, fro, rfl, hgo, hszo, hexo⟩ := HO2.out r hlt3
                obtain ⟨gp, offp, Bp, typ, frp, rfl, hgp, hszp, hexp⟩ := HO1.out r hlt3
                have hneo := neq_ord (HO.out j r)
                have HEo := Lib.hid hexo
                have HEp := Lib.hid hexp
                have HZo := Lib.hid hszo
                have HZp := Lib.hid hszp
                clear hexo hexp hszo hszp
                have hg1y := kept hby hg1
                have hgAy := kept hby hgA
                have hgoy := kept hby hgo
                have hgpy := kept hby hgp
                generalize O j r = Oj at *
                generalize m j = mj at *
                go_wp2
                refine wp_region_below (by kernel_rfl) (by kernel_rfl) ?_
                repeat (first | ((with_reducible apply q_skip); (case hw => rfl); (try simp only [Act.put, List.setIfInBounds_toArray, List.set_cons_zero, List.set_cons_succ])) | ((with_reducible refine at_qload 41 ?_); refine q_load_fr (by rfl) 41 _ rfl (go) ((offo + r * 5)) rfl _ (B) _ _ 5 (hgoy) Try.underlying41 rfl (by kernel_rfl) (by have := HZo.out; omega) (Oj) (HEo.out) ?_; try simp only [Act.put, List.setIfInBounds_toArray, List.set_cons_zero, List.set_cons_succ]) | ((with_reducible refine at_qload 41 ?_); refine q_load_fr (by rfl) 41 _ rfl (gp) ((offp + r * 5)) rfl _ (Bp) _ _ 5 (hgpy) Try.underlying41 rfl (by kernel_rfl) (by have := HZp.out; omega) (Oj) (HEp.out) ?_; try simp only [Act.put, List.setIfInBounds_toArray, List.set_cons_zero, List.set_cons_succ]) | ((with_reducible apply q_val); (case hw => rfl); (case hv => intro wq hbq; have hcq := cellF (Ytnpjclodcgejgaa.kept hbq hg1y); have hcr := cellF (Ytnpjclodcgejgaa.kept hbq hgAy); go_simp; try rfl); (try simp only [Act.put, List.setIfInBounds_toArray, List.set_cons_zero, List.set_cons_succ])))
                refine q_nil ?_
                intro w7 hb7
                have hg67 := Ytnpjclodcgejgaa.kept hb7 hg6
                have hg87 := Ytnpjclodcgejgaa.kept hb7 hg8
                have hb17 := below_then hby hb7
                go_wp2
                go_roundg (mj - (r + 1))
                case measure => omega
                case rel => exact ⟨r + 1, by omega, rfl, by go_num, hg67, hg87, hb17⟩
              · obtain rfl : r = m j := by omega
                go_wp2
                go_roundg (k - (j + 1))
                case measure => omega
                case rel => exact ⟨j + 1, by omega, rfl, by go_num, hg6, hg8, hby⟩
          · obtain rfl : j = k := by omega
            go_wp2_with (first | ((with_reducible refine at_load 35 ?_); refine wpList_load_part rfl 35 _ rfl (w1.heap.size) (0) rfl _ (R) _ _ 3 (hg6) Try.underlying35 rfl (by kernel_rfl) (by rw [HR3.out]; omega) (R) (HX.out) ?_) | ((with_reducible refine at_load 35 ?_); refine wpList_load_part rfl 35 _ rfl (w2.heap.size) (0) rfl _ (R) _ _ 3 (hg8) Try.underlying35 rfl (by kernel_rfl) (by rw [HR3.out]; omega) (R) (HX.out) ?_) | (go_at_call 13; (with_reducible refine (known11 _).mono ?_); rintro e w5 ⟨rfl, hb5⟩))
            go_ret
            exact ⟨rfl, below_then (below_then hb hbx) hb5⟩
  · go_wp2_with (first | (go_at_call 13; (with_reducible refine (known11 _).mono ?_); rintro e w5 ⟨rfl, hb5⟩))
    go_ret
    exact ⟨rfl, hb5⟩
end Go.Proofs.Ytnpjclodcgejgaa
