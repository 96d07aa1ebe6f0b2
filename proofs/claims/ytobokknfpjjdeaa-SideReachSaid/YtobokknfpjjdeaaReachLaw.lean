/- SideReach, walked: it returns true. No condition. -/
import Derived.Test.YtobokknfpjjdeaaKnown06
import Derived.Test.YtobokknfpjjdeaaSideAn
import Derived.Test.YtobokknfpjjdeaaRowsIn
namespace Go.Proofs.Ytobokknfpjjdeaa
set_option linter.unusedVariables false
set_option linter.unusedSimpArgs false
open Go.RowKit

/-- all orders may be, and are of this side -/
def OKS (buy : Bool) (L : Nat → Array Value) (k : Nat) : Prop := ∀ i, i < k → okO (L i) = true ∧ Bo (L i) 2 = buy
theorem OKS.ins {buy : Bool} {L : Nat → Array Value} {B : Array Value} {k p : Nat} (h : OKS buy L k) (hB : okO B = true) (hb : Bo B 2 = buy) (hp : p ≤ k) : OKS buy (ins L p B) (k + 1) := fun i hi => by
  unfold Ytobokknfpjjdeaa.ins
  split
  · exact h i (by omega)
  · split
    · exact ⟨hB, hb⟩
    · exact h (i - 1) (by omega)
theorem okO_facts {A : Array Value} (h : okO A = true) : N A 0 ≠ 0 ∧ N A 1 ≠ 0 ∧ (1 ≤ N A 3 ∧ N A 3 ≤ 10000000) ∧ 1 ≤ N A 4 ∧ N A 4 ≤ 1000000 := by
  simp only [okO, Bool.and_eq_true, Bool.not_eq_true', decide_eq_false_iff_not, inB_iff] at h
  exact ⟨h.1.1.1, h.1.1.2, h.1.2, h.2⟩
theorem rchA_step {buy : Bool} {L : Nat → Array Value} {k : Nat} (h : OKS buy L k) (hk : k ≤ 100) : ∀ j, j ≤ k → (0 ≤ rchA L 0 j ∧ rchA L 0 j ≤ j * 1000000) ∧ (j < k → rchA L 0 (j + 1) = rchA L 0 j + N (L j) 4)
  | 0, _ => by
    refine ⟨by simp [rchA], fun hj => ?_⟩
    have := okO_facts (h 0 hj).1
    rw [show rchA L 0 (0 + 1) = if N (L 0) 1 = 0 then rchA L 0 0 else wrap64 (rchA L 0 0 + N (L 0) 4) from rfl, if_neg this.2.1]
    simp only [rchA]
    unfold wrap64; omega
  | j + 1, hj => by
    obtain ⟨⟨h1, h2⟩, h3⟩ := rchA_step h hk j (by omega)
    have e := h3 (by omega)
    have f := okO_facts (h j (by omega)).1
    have hb : 0 ≤ rchA L 0 (j + 1) ∧ rchA L 0 (j + 1) ≤ (j + 1 : Nat) * 1000000 := by rw [e]; omega
    refine ⟨hb, fun hj => ?_⟩
    have f2 := okO_facts (h (j + 1) hj).1
    rw [show rchA L 0 (j + 1 + 1) = if N (L (j + 1)) 1 = 0 then rchA L 0 (j + 1) else wrap64 (rchA L 0 (j + 1) + N (L (j + 1)) 4) from rfl, if_neg f2.2.1]
    unfold wrap64; omega
theorem sreach_none {w : World} {g base k : Nat} {buy : Bool} {L : Nat → Array Value} (x n : Int) (h : SideIs w g base k buy L) (h0 : k = 0 ∨ bet buy x (N (L 0) 3) = true) :
    Calls Try.prog 14 #[.pointer (some ⟨g, 0, none⟩), .int .i64 x, .int .u32 n] w fun e w' => e = .returned (.int .i64 0) ∧ Below w.heap.size w w' := by
  refine (sreach_yes x n h).mono ?_
  rintro e w' ⟨⟨j, hj, h1, _, rfl⟩, hb⟩
  have : j = 0 := by
    rcases h0 with h0 | h0
    · omega
    · by_cases e : j = 0
      · exact e
      · have := h1 0 (by omega); rw [h0] at this; cases this
  subst this
  exact ⟨rfl, hb⟩
set_option maxRecDepth 100000 in
set_option maxHeartbeats 8000000 in
theorem reach06_walk (buy : Bool) (a : Option Addr) (n c : Nat) (L : Nat → Array Value) (price : Int) (w : World) (hL : ∀ i, IsOrd (L i)) (hl : RowsC w 5 a n L) (hn : n ≤ c) (hc : c ≤ 9223372036854775807) (hz : a = none → n = 0 ∧ c = 0) (hp : F64 price) :
    Calls Try.prog 3 #[.bool buy, .slice a n c, .int .i64 price] w fun e w' => e = .returned (.bool true) ∧ Below w.heap.size w w' := by
  have hne : ∀ (w : World) (g : Nat), (binOp .eql 23 (.pointer (some ⟨g, 0, none⟩)) (.pointer none)).run Try.prog w = .ok (.bool false) w := fun _ _ => by kernel_rfl
  have hnn : ∀ (w : World) (g : Nat), (binOp .neq 23 (.pointer (some ⟨g, 0, none⟩)) (.pointer none)).run Try.prog w = .ok (.bool true) w := fun _ _ => by kernel_rfl
  have HL := Lib.hid hL
  have HR := Lib.hid hl
  clear hL hl hz hp
  go_enter Try.func3, Try.ntmps3
  by_cases hbig : 100 < n
  · have hbz : (100 : Int) < n := by omega
    go_wp2_with (first | (go_at_call 11; (with_reducible refine (new_side _ _).mono ?_); rintro e w1 ⟨rfl, hN1, hb1⟩) | (go_at_call 12; (with_reducible refine (known06 _).mono ?_); rintro e w9 ⟨rfl, hb9⟩))
    go_ret
    exact ⟨rfl, below_then hb1 hb9⟩
  have hbz : ¬ (100 : Int) < n := by omega
  go_wp2_with (first | (go_at_call 11; (with_reducible refine (new_side _ _).mono ?_); rintro e w1 ⟨rfl, hN1, hb1⟩))
  go_loopg [31] n (fun gh i wr => ∃ (j k : Nat) (K : Nat → Array Value), j ≤ n ∧ gh = n - j ∧ i = .int .i64 j ∧ k ≤ j ∧ SideIs wr w.heap.size w.heap.size k buy K ∧ OKS buy K k ∧ Below w.heap.size w wr)
  case atStart => exact ⟨0, 0, _, by omega, rfl, rfl, by omega, hN1, fun i hi => by omega, hb1⟩
  case round =>
    obtain ⟨j, k, K, hj, rfl, rfl, hkj, hS, hok, hB⟩ := hrel
    by_cases hlt : j < n
    · obtain ⟨ga, off, A, t, fr, rfl, hgA, hsA, hxA⟩ := HR.out.kept hB j hlt
      have ca := sadd_any hS (HL.out j)
      have HOK := Lib.hid hok
      have HS := Lib.hid hS
      clear hok hS
      go_wp2_with (first | ((with_reducible refine at_load 31 ?_); refine wpList_load_part rfl 31 _ rfl (ga) (off + j * 5) rfl _ (A) _ _ 5 (hgA) Try.underlying31 rfl (by kernel_rfl) (hsA) (L j) (hxA) ?_) | (go_at_call 13; (with_reducible refine (ca).mono ?_); rintro e w3 ⟨r, rfl, h3⟩))
      rcases h3 with ⟨_, hb3⟩ | ⟨_, q1, q2, _, hk1, q3, q4, _⟩
      · go_roundg (n - (j + 1))
        case measure => omega
        case rel => exact ⟨j + 1, k, K, by omega, rfl, by go_num, by omega, HS.out.kept hb3, HOK.out, below_then hB hb3⟩
      · go_roundg (n - (j + 1))
        case measure => omega
        case rel => exact ⟨j + 1, k + 1, _, by omega, rfl, by go_num, by omega, q3, HOK.out.ins q1 q2 plc_le, hB.trans q4⟩
    · obtain rfl : j = n := by omega
      have hk100 : k ≤ 100 := by omega
      go_wp2_with (first | (go_at_call 14; (with_reducible refine (sreach_yes price 0 hS).mono ?_); rintro e w4 ⟨⟨m, hm, hm1, hm2, rfl⟩, hb4⟩; have hS4 := hS.kept hb4; have hB4 := below_then hB hb4))
      have HM := Lib.hid (And.intro hm1 hm2)
      have HST := Lib.hid (rchA_step hok hk100)
      have HOK := Lib.hid hok
      clear hS hB hok hm1 hm2
      go_loopg [10, 44] 100 (fun gh got i wr => ∃ r : Nat, r ≤ 100 ∧ gh = 100 - r ∧ i = .int .i64 r ∧ got = .int .i64 (rchA K 0 r) ∧ r ≤ m ∧ SideIs wr w.heap.size w.heap.size (k - r) buy (fun i => K (i + r)) ∧ Below w.heap.size w wr)
      case atStart => exact ⟨0, by omega, rfl, rfl, rfl, by omega, hS4, hB4⟩
      case round =>
        obtain ⟨r, hr, rfl, rfl, rfl, hrm, hSr, hBr⟩ := hrel
        by_cases hrl : r = m
        · subst hrl
          have hst := Lib.hid (show k - r = 0 ∨ bet buy price (N ((fun i => K (i + r)) 0) 3) = true by
            rcases HM.out.2 with h | h
            · exact .inl (by omega)
            · exact .inr (by simpa using h))
          by_cases hr100 : r = 100
          · subst hr100
            have hSE := Lib.hid hSr
            have hBE := Lib.hid hBr
            generalize rchA K 0 100 = got at *
            go_wp2_with (first | (go_at_call 14; (with_reducible refine (sreach_none price 0 hSE.out hst.out).mono ?_); rintro e w8 ⟨rfl, hb8⟩) | (go_at_call 12; (with_reducible refine (known06 _).mono ?_); rintro e w9 ⟨rfl, hb9⟩))
            go_ret
            exact ⟨rfl, below_then (below_then hBE.out hb8) hb9⟩
          · have hrz : (r : Int) < 100 := by omega
            by_cases hk0 : k - r = 0
            · have cb : Calls Try.prog 15 #[.pointer (some ⟨w.heap.size, 0, none⟩)] wr _ := sbest_zero (by rw [← hk0]; exact hSr)
              have HZ := Lib.hid zo_size
              have HZA := Lib.hid zo_all
              have HS0 := Lib.hid hSr
              have HB0 := Lib.hid hBr
              clear hSr hBr
              generalize rchA K 0 r = got at *
              go_wp2_with (first | (go_at_call 15; (with_reducible refine (cb).mono ?_); rintro e w5 ⟨rfl, hb5⟩) | ((with_reducible refine at_alloc 31 ?_); refine wpList_alloc_named rfl 31 rfl (zo) (by kernel_rfl) ?_) | ((with_reducible refine at_store 31 ?_); refine wpList_store_over rfl 31 _ _ rfl (w5.heap.size) (zo) rfl rfl _ _ (heap_alloc_new _ _) (by rw [HZ.out]; kernel_rfl) (rfl) (HZA.out) ?_; intro w6 hg6 hs6 ho6 hb6; have hb56 := below_then hb5 ((below_new w5 (Obj.cells zo 31)).trans (hb6 _ (Nat.le_refl _))); have hS6 := HS0.out.kept hb56) | (go_at_call 14; (with_reducible refine (sreach_none price 0 hS6 hst.out).mono ?_); rintro e w8 ⟨rfl, hb8⟩) | (go_at_call 12; (with_reducible refine (known06 _).mono ?_); rintro e w9 ⟨rfl, hb9⟩))
              go_ret
              exact ⟨rfl, below_then (below_then (below_then HB0.out hb56) hb8) hb9⟩
            · have hbt : bet buy price (N (K r) 3) = true := by
                rcases HM.out.2 with h | h
                · omega
                · exact h
              have cb := sbest_yes hSr (by omega)
              simp only [Nat.zero_add] at cb
              have hOr := hSr.ord 0
              simp only [Nat.zero_add] at hOr
              have HMS := Lib.hid hOr.size
              have HMA := Lib.hid hOr.all
              have hM3 := hOr.p.1
              have hM4 := hOr.l.1
              have HS0 := Lib.hid hSr
              have HB0 := Lib.hid hBr
              have hgl : w.heap.size < wr.heap.size := by obtain ⟨v, hg, _⟩ := hSr.row; exact (cells_of hg).2.2
              clear hSr hBr hOr
              cases buy
              · have hpl : price < N (K r) 3 := by simpa [bet] using hbt
                have HBT := Lib.hid hbt
                clear hbt
                generalize hKM : K r = M at *
                generalize N M 3 = p3 at *
                generalize N M 4 = p4 at *
                generalize rchA K 0 r = got at *
                go_wp2_with (first | (go_at_call 15; (with_reducible refine (cb).mono ?_); rintro e w5 ⟨rfl, hb5⟩; have hb56 := below_then hb5 (below_new w5 (Obj.cells M 31)); have hS6 := HS0.out.kept hb56) | ((with_reducible refine at_alloc 31 ?_); refine wpList_alloc_named rfl 31 rfl (zo) (by kernel_rfl) ?_) | ((with_reducible refine at_store 31 ?_); refine wpList_store_new rfl 31 _ _ rfl (M) _ _ _ rfl (by simp) rfl (by rw [HMS.out]; kernel_rfl) (by rw [HMS.out]; rfl) (HMA.out) ?_) | (go_at_call 14; (with_reducible refine (sreach_none price 0 hS6 hst.out).mono ?_); rintro e w8 ⟨rfl, hb8⟩) | (go_at_call 12; (with_reducible refine (known06 _).mono ?_); rintro e w9 ⟨rfl, hb9⟩))
                go_ret
                exact ⟨rfl, below_then (below_then (below_then HB0.out hb56) hb8) hb9⟩
              · have hpl : N (K r) 3 < price := by simpa [bet] using hbt
                have HBT := Lib.hid hbt
                clear hbt
                generalize hKM : K r = M at *
                generalize N M 3 = p3 at *
                generalize N M 4 = p4 at *
                generalize rchA K 0 r = got at *
                go_wp2_with (first | (go_at_call 15; (with_reducible refine (cb).mono ?_); rintro e w5 ⟨rfl, hb5⟩; have hb56 := below_then hb5 (below_new w5 (Obj.cells M 31)); have hS6 := HS0.out.kept hb56) | ((with_reducible refine at_alloc 31 ?_); refine wpList_alloc_named rfl 31 rfl (zo) (by kernel_rfl) ?_) | ((with_reducible refine at_store 31 ?_); refine wpList_store_new rfl 31 _ _ rfl (M) _ _ _ rfl (by simp) rfl (by rw [HMS.out]; kernel_rfl) (by rw [HMS.out]; rfl) (HMA.out) ?_) | (go_at_call 14; (with_reducible refine (sreach_none price 0 hS6 hst.out).mono ?_); rintro e w8 ⟨rfl, hb8⟩) | (go_at_call 12; (with_reducible refine (known06 _).mono ?_); rintro e w9 ⟨rfl, hb9⟩))
                go_ret
                exact ⟨rfl, below_then (below_then (below_then HB0.out hb56) hb8) hb9⟩
        · have hrm' : r < m := by omega
          have hk0 : ¬ k - r = 0 := by omega
          have hrz : (r : Int) < 100 := by omega
          have hbt := HM.out.1 r hrm'
          have hst := HST.out r (by omega)
          have hsr := hst.2 (by omega)
          have HSR := Lib.hid hsr
          have hb1 := hst.1.1
          have hb2 := hst.1.2
          have hfk := okO_facts (HOK.out r (by omega)).1
          have hl1 := hfk.2.2.2.1
          have hl2 := hfk.2.2.2.2
          clear hst hsr hfk
          have cb := sbest_yes hSr (by omega)
          simp only [Nat.zero_add] at cb
          have hOr := hSr.ord 0
          simp only [Nat.zero_add] at hOr
          have HMS := Lib.hid hOr.size
          have HMA := Lib.hid hOr.all
          have hM3 := hOr.p.1
          have hM4 := hOr.l.1
          have HS0 := Lib.hid hSr
          have HB0 := Lib.hid hBr
          have hgl : w.heap.size < wr.heap.size := by obtain ⟨v, hg, _⟩ := hSr.row; exact (cells_of hg).2.2
          clear hSr hBr hOr
          have HFI := Lib.hid (fun w6 (h : SideIs w6 w.heap.size w.heap.size (k - r) buy (fun i => K (i + r))) => sfill_all h (by omega) (by simpa using hl1))
          simp only [Nat.zero_add] at HFI
          have HLO := Lib.hid (show IsOrd (lo (fun i => K (i + r)) 0 0 0) from by unfold lo; rw [if_pos rfl]; exact ord_lo (HS0.out.ord 0) ⟨by decide, by decide⟩)
          have HRM := Lib.hid (show rem (fun i => K (i + r)) 0 = fun i => K (i + (r + 1)) from funext fun i => by unfold rem; rw [if_neg (by omega)]; exact congrArg K (by omega))
          cases buy
          · have hpl : ¬ price < N (K r) 3 := by simpa [bet] using hbt
            have HBT := Lib.hid hbt
            clear hbt
            generalize hKM : K r = M at *
            generalize N M 3 = p3 at *
            generalize hN4 : N M 4 = p4 at *
            generalize lo (fun i => K (i + r)) 0 0 0 = M2 at *
            clear hKM hN4
            generalize hgot : rchA K 0 r = got at *
            have HGOT := Lib.hid hgot
            clear hgot
            go_wp2_with (first | (go_at_call 15; (with_reducible refine (cb).mono ?_); rintro e w5 ⟨rfl, hb5⟩; have hb56 := below_then hb5 (below_new w5 (Obj.cells M 31)); have hS6 := HS0.out.kept hb56; have hm6 := heap_alloc_new w5 (Obj.cells M 31)) | ((with_reducible refine at_alloc 31 ?_); refine wpList_alloc_named rfl 31 rfl (zo) (by kernel_rfl) ?_) | ((with_reducible refine at_store 31 ?_); refine wpList_store_new rfl 31 _ _ rfl (M) _ _ _ rfl (by simp) rfl (by rw [HMS.out]; kernel_rfl) (by rw [HMS.out]; rfl) (HMA.out) ?_) | (go_at_call 16; (with_reducible refine (HFI.out _ hS6).mono ?_); rintro e w7 ⟨rfl, hS7, hb7, _, hk7⟩; have hm7 := cellF (Kf.new (HS0.out.kept hb5) hk7); have hm8 := cellF (heap_up (o := Obj.cells M2 31) (Kf.new (HS0.out.kept hb5) hk7))) | ((with_reducible refine at_store 31 ?_); refine wpList_store_new rfl 31 _ _ rfl (M2) _ _ _ rfl (by simp) rfl (by rw [HLO.out.size]; kernel_rfl) (by rw [HLO.out.size]; rfl) (HLO.out.all) ?_))
            rw [HRM.out] at hS7
            go_roundg (100 - (r + 1))
            case measure => omega
            case rel => exact ⟨r + 1, by omega, rfl, by go_num, by rw [HSR.out], by omega, (by rw [show k - (r + 1) = k - r - 1 by omega]; exact hS7.kept (below_new _ _)), below_alloc ((below_then HB0.out hb56).trans hb7) _⟩
          · have hpl : ¬ N (K r) 3 < price := by simpa [bet] using hbt
            have HBT := Lib.hid hbt
            clear hbt
            generalize hKM : K r = M at *
            generalize N M 3 = p3 at *
            generalize hN4 : N M 4 = p4 at *
            generalize lo (fun i => K (i + r)) 0 0 0 = M2 at *
            clear hKM hN4
            generalize hgot : rchA K 0 r = got at *
            have HGOT := Lib.hid hgot
            clear hgot
            go_wp2_with (first | (go_at_call 15; (with_reducible refine (cb).mono ?_); rintro e w5 ⟨rfl, hb5⟩; have hb56 := below_then hb5 (below_new w5 (Obj.cells M 31)); have hS6 := HS0.out.kept hb56; have hm6 := heap_alloc_new w5 (Obj.cells M 31)) | ((with_reducible refine at_alloc 31 ?_); refine wpList_alloc_named rfl 31 rfl (zo) (by kernel_rfl) ?_) | ((with_reducible refine at_store 31 ?_); refine wpList_store_new rfl 31 _ _ rfl (M) _ _ _ rfl (by simp) rfl (by rw [HMS.out]; kernel_rfl) (by rw [HMS.out]; rfl) (HMA.out) ?_) | (go_at_call 16; (with_reducible refine (HFI.out _ hS6).mono ?_); rintro e w7 ⟨rfl, hS7, hb7, _, hk7⟩; have hm7 := cellF (Kf.new (HS0.out.kept hb5) hk7); have hm8 := cellF (heap_up (o := Obj.cells M2 31) (Kf.new (HS0.out.kept hb5) hk7))) | ((with_reducible refine at_store 31 ?_); refine wpList_store_new rfl 31 _ _ rfl (M2) _ _ _ rfl (by simp) rfl (by rw [HLO.out.size]; kernel_rfl) (by rw [HLO.out.size]; rfl) (HLO.out.all) ?_))
            rw [HRM.out] at hS7
            go_roundg (100 - (r + 1))
            case measure => omega
            case rel => exact ⟨r + 1, by omega, rfl, by go_num, by rw [HSR.out], by omega, (by rw [show k - (r + 1) = k - r - 1 by omega]; exact hS7.kept (below_new _ _)), below_alloc ((below_then HB0.out hb56).trans hb7) _⟩
end Go.Proofs.Ytobokknfpjjdeaa
