/- The document's Margin answers what the plain reading says, of any legs. Condition: each leg's numbers fit their kinds. -/
import Derived.Test.YtnpjclodcgejgaaMargin
import Derived.Test.YtnpjclodcgejgaaRef04
namespace Go.Proofs.Ytnpjclodcgejgaa
set_option linter.unusedVariables false
set_option linter.unusedSimpArgs false
open Go.RowKit

/-- the document's rate -/
def rr (L : Nat → Array Value) (r : Int) (k : Nat) : Int := if (st L r k).lg = 0 ∧ (st L r k).sh = 0 then -1 else (st L r k).rt

set_option maxRecDepth 100000 in
set_option maxHeartbeats 1000000 in
theorem rroute_any (L : Nat → Array Value) (a : Option Addr) (n cap : Nat) (r : Int) (w : World) (hL : ∀ i, IsLeg (L i)) (hA : Legs w a n L) (hn : n ≤ 16) (hok : okTo L n = true) (hr : 0 ≤ r ∧ r ≤ 255) :
    Calls Try.prog 50 #[.slice a n cap, .int .u8 r] w fun e w' => e = .returned (.int .i64 (mg (st L r n))) ∧ Below w.heap.size w w' := by
  have HA := Lib.hid hA
  have HL := Lib.hid hL
  have HO := Lib.hid hok
  clear hA hL hok
  go_enter Try.func50, Try.ntmps50
  go_wp2
  go_loopg [5, 6, 7, 8, 9] n (fun gh sc lg sh ra i wr => ∃ k : Nat, k ≤ n ∧ gh = n - k ∧ sc = .int .i64 (st L r k).sc ∧ lg = .int .i64 (st L r k).lg ∧ sh = .int .i64 (st L r k).sh ∧ ra = .int .i64 (rr L r k) ∧ i = .int .i64 k ∧ Below w.heap.size w wr)
  case atStart => exact ⟨0, by omega, by omega, rfl, rfl, rfl, rfl, rfl, Below.refl _ _⟩
  case round =>
    obtain ⟨k, hk, rfl, rfl, rfl, rfl, rfl, rfl, hb⟩ := hrel
    obtain ⟨⟨d0, d0'⟩, ⟨d1, d1'⟩, ⟨d2, d2'⟩, ⟨d3, d3'⟩⟩ := st_bd HL.out r k (okTo_mono HO.out hk)
    have HRR := Lib.hid (show rr L r k = if (st L r k).lg = 0 ∧ (st L r k).sh = 0 then -1 else (st L r k).rt from rfl)
    by_cases hlt : k < n
    · obtain ⟨g, off, A, t, fr, rfl, hgA, hszA, hexA⟩ := (HA.out.kept hb) k hlt
      have hleg := HL.out k
      obtain ⟨hsw, hq7, hlc, hlr⟩ := okLeg_facts hleg (okTo_at HO.out hlt)
      have HE := Lib.hid hexA
      have HZ := Lib.hid hszA
      clear hexA hszA
      have aq : (L k)[25]? = some (.int .i64 (lq L k)) := hleg.q.i64.1
      have ar := hleg.c1
      have ac := hleg.c22
      have hsh := ls_sh hleg
      have hwk := wk_bd7 hq7 hsw 16 (by omega)
      have cw := fun w => rworst_any (ls L k) (lq L k) w hsh hsw (by omega)
      have HSM0 := Lib.hid (show (lq L k = 0 ∨ lr L k ≠ r) → st L r (k + 1) = st L r k from fun h => by rw [st, if_pos h])
      have HT := Lib.hid (show ¬ (lq L k = 0 ∨ lr L k ≠ r) → st L r (k + 1) = ⟨(st L r k).sc + wk (ls L k) (lq L k) 16, (st L r k).lg + max (lq L k) 0, (st L r k).sh + max (-(lq L k)) 0,
        if ((st L r k).lg = 0 ∧ (st L r k).sh = 0) ∨ lc L k < (st L r k).rt then lc L k else (st L r k).rt⟩ from fun h => by rw [st, if_neg h])
      have HU := Lib.hid (show rr L r (k + 1) = if (st L r (k + 1)).lg = 0 ∧ (st L r (k + 1)).sh = 0 then -1 else (st L r (k + 1)).rt from rfl)
      by_cases e1 : lr L k = r
      · by_cases e2 : lq L k = 0
        · have HSM := Lib.hid (HSM0.out (Or.inl e2))
          have HSR := Lib.hid (show rr L r (k + 1) = rr L r k by rw [HU.out, HSM.out]; rfl)
          have e1' : (lr L k == r) = true := by simpa using e1
          have e2' : (lq L k == 0) = true := by simpa using e2
          go_wp2_with (first | ((with_reducible refine at_load 30 ?_); refine wpList_load_part rfl 30 _ rfl (g) ((off + k * 26)) rfl _ (A) _ _ 26 (hgA) Try.underlying30 rfl (by kernel_rfl) (by have := HZ.out; omega) (L k) (HE.out) ?_) | ((with_reducible refine at_alloc 30 ?_); refine wpList_alloc_named rfl 30 rfl (z26) (by kernel_rfl) ?_) | ((with_reducible refine at_store 30 ?_); refine wpList_store_new rfl 30 _ _ rfl (L k) _ _ _ rfl (by simp) rfl (by rw [hleg.size]; kernel_rfl) (by rw [hleg.size]; rfl) (hleg.all) ?_))
          go_roundg (n - (k + 1))
          case measure => omega
          case rel => exact ⟨k + 1, by omega, rfl, by rw [HSM.out], by rw [HSM.out], by rw [HSM.out], by rw [HSR.out], by go_num, below_then hb (below_new _ _)⟩
        · have HT4 := HT.out (by simp [e1, e2])
          have e1' : (lr L k == r) = true := by simpa using e1
          have e2' : (lq L k == 0) = false := by simpa using e2
          have HT0 := Lib.hid (show (st L r (k + 1)).sc = _ by rw [HT4])
          have hu1 : (st L r (k + 1)).lg = (st L r k).lg + max (lq L k) 0 := by rw [HT4]
          have hu2 : (st L r (k + 1)).sh = (st L r k).sh + max (-(lq L k)) 0 := by rw [HT4]
          have hu3 : rr L r (k + 1) = if ((st L r k).lg = 0 ∧ (st L r k).sh = 0) ∨ lc L k < (st L r k).rt then lc L k else (st L r k).rt := by
            rw [HU.out, if_neg (by omega), HT4]
          have HT1 := Lib.hid hu1
          have HT2 := Lib.hid hu2
          clear HT4 hu1 hu2 HT HSM0 HU
          generalize hqv : lq L k = q at *
          clear hqv
          generalize hlcv : lc L k = cr at *
          clear hlcv
          generalize hscv : (st L r k).sc = sc at *
          generalize hlgv : (st L r k).lg = lg at *
          generalize hshv : (st L r k).sh = sh at *
          generalize hrtv : (st L r k).rt = rt at *
          clear hscv hlgv hshv hrtv
          by_cases e3 : lg = 0 ∧ sh = 0
          · rw [if_pos (Or.inl e3)] at hu3
            have HT3 := Lib.hid hu3
            have hra : rr L r k = -1 := by rw [HRR.out, if_pos e3]
            rw [hra]
            clear hu3 hra HRR
            by_cases e5 : 0 < q
            · go_wp2_with (first | ((with_reducible refine at_load 30 ?_); refine wpList_load_part rfl 30 _ rfl (g) ((off + k * 26)) rfl _ (A) _ _ 26 (hgA) Try.underlying30 rfl (by kernel_rfl) (by have := HZ.out; omega) (L k) (HE.out) ?_) | ((with_reducible refine at_alloc 30 ?_); refine wpList_alloc_named rfl 30 rfl (z26) (by kernel_rfl) ?_) | ((with_reducible refine at_store 30 ?_); refine wpList_store_new rfl 30 _ _ rfl (L k) _ _ _ rfl (by simp) rfl (by rw [hleg.size]; kernel_rfl) (by rw [hleg.size]; rfl) (hleg.all) ?_) | ((with_reducible refine at_load 26 ?_); refine wpList_load_part rfl 26 _ rfl (wr.heap.size) (6) rfl _ (L k) _ _ 16 (heap_alloc_new _ _) Try.underlying26 rfl (by kernel_rfl) (by rw [hleg.size]; omega) (ls L k) (rfl) ?_) | (go_at_call 49; (with_reducible refine (cw _).mono ?_); rintro e w1 ⟨rfl, hb1⟩; have hg1 := kept hb1 (heap_alloc_new _ _); have hc1 := (cells_of hg1).1))
              go_roundg (n - (k + 1))
              case measure => omega
              case rel => exact ⟨k + 1, by omega, rfl, by rw [HT0.out], by rw [HT1.out]; congr 1; omega, by rw [HT2.out]; congr 1; omega, by rw [HT3.out], by go_num, below_then hb (below_then (below_new _ _) hb1)⟩
            · go_wp2_with (first | ((with_reducible refine at_load 30 ?_); refine wpList_load_part rfl 30 _ rfl (g) ((off + k * 26)) rfl _ (A) _ _ 26 (hgA) Try.underlying30 rfl (by kernel_rfl) (by have := HZ.out; omega) (L k) (HE.out) ?_) | ((with_reducible refine at_alloc 30 ?_); refine wpList_alloc_named rfl 30 rfl (z26) (by kernel_rfl) ?_) | ((with_reducible refine at_store 30 ?_); refine wpList_store_new rfl 30 _ _ rfl (L k) _ _ _ rfl (by simp) rfl (by rw [hleg.size]; kernel_rfl) (by rw [hleg.size]; rfl) (hleg.all) ?_) | ((with_reducible refine at_load 26 ?_); refine wpList_load_part rfl 26 _ rfl (wr.heap.size) (6) rfl _ (L k) _ _ 16 (heap_alloc_new _ _) Try.underlying26 rfl (by kernel_rfl) (by rw [hleg.size]; omega) (ls L k) (rfl) ?_) | (go_at_call 49; (with_reducible refine (cw _).mono ?_); rintro e w1 ⟨rfl, hb1⟩; have hg1 := kept hb1 (heap_alloc_new _ _); have hc1 := (cells_of hg1).1))
              go_roundg (n - (k + 1))
              case measure => omega
              case rel => exact ⟨k + 1, by omega, rfl, by rw [HT0.out], by rw [HT1.out]; congr 1; omega, by rw [HT2.out]; congr 1; omega, by rw [HT3.out], by go_num, below_then hb (below_then (below_new _ _) hb1)⟩
          · have hra : rr L r k = rt := by rw [HRR.out, if_neg e3]
            rw [hra]
            clear hra HRR
            by_cases e4 : cr < rt
            · rw [if_pos (Or.inr e4)] at hu3
              have HT3 := Lib.hid hu3
              clear hu3
              by_cases e5 : 0 < q
              · go_wp2_with (first | ((with_reducible refine at_load 30 ?_); refine wpList_load_part rfl 30 _ rfl (g) ((off + k * 26)) rfl _ (A) _ _ 26 (hgA) Try.underlying30 rfl (by kernel_rfl) (by have := HZ.out; omega) (L k) (HE.out) ?_) | ((with_reducible refine at_alloc 30 ?_); refine wpList_alloc_named rfl 30 rfl (z26) (by kernel_rfl) ?_) | ((with_reducible refine at_store 30 ?_); refine wpList_store_new rfl 30 _ _ rfl (L k) _ _ _ rfl (by simp) rfl (by rw [hleg.size]; kernel_rfl) (by rw [hleg.size]; rfl) (hleg.all) ?_) | ((with_reducible refine at_load 26 ?_); refine wpList_load_part rfl 26 _ rfl (wr.heap.size) (6) rfl _ (L k) _ _ 16 (heap_alloc_new _ _) Try.underlying26 rfl (by kernel_rfl) (by rw [hleg.size]; omega) (ls L k) (rfl) ?_) | (go_at_call 49; (with_reducible refine (cw _).mono ?_); rintro e w1 ⟨rfl, hb1⟩; have hg1 := kept hb1 (heap_alloc_new _ _); have hc1 := (cells_of hg1).1))
                go_roundg (n - (k + 1))
                case measure => omega
                case rel => exact ⟨k + 1, by omega, rfl, by rw [HT0.out], by rw [HT1.out]; congr 1; omega, by rw [HT2.out]; congr 1; omega, by rw [HT3.out], by go_num, below_then hb (below_then (below_new _ _) hb1)⟩
              · go_wp2_with (first | ((with_reducible refine at_load 30 ?_); refine wpList_load_part rfl 30 _ rfl (g) ((off + k * 26)) rfl _ (A) _ _ 26 (hgA) Try.underlying30 rfl (by kernel_rfl) (by have := HZ.out; omega) (L k) (HE.out) ?_) | ((with_reducible refine at_alloc 30 ?_); refine wpList_alloc_named rfl 30 rfl (z26) (by kernel_rfl) ?_) | ((with_reducible refine at_store 30 ?_); refine wpList_store_new rfl 30 _ _ rfl (L k) _ _ _ rfl (by simp) rfl (by rw [hleg.size]; kernel_rfl) (by rw [hleg.size]; rfl) (hleg.all) ?_) | ((with_reducible refine at_load 26 ?_); refine wpList_load_part rfl 26 _ rfl (wr.heap.size) (6) rfl _ (L k) _ _ 16 (heap_alloc_new _ _) Try.underlying26 rfl (by kernel_rfl) (by rw [hleg.size]; omega) (ls L k) (rfl) ?_) | (go_at_call 49; (with_reducible refine (cw _).mono ?_); rintro e w1 ⟨rfl, hb1⟩; have hg1 := kept hb1 (heap_alloc_new _ _); have hc1 := (cells_of hg1).1))
                go_roundg (n - (k + 1))
                case measure => omega
                case rel => exact ⟨k + 1, by omega, rfl, by rw [HT0.out], by rw [HT1.out]; congr 1; omega, by rw [HT2.out]; congr 1; omega, by rw [HT3.out], by go_num, below_then hb (below_then (below_new _ _) hb1)⟩
            · rw [if_neg (by omega)] at hu3
              have HT3 := Lib.hid hu3
              clear hu3
              by_cases e5 : 0 < q
              · go_wp2_with (first | ((with_reducible refine at_load 30 ?_); refine wpList_load_part rfl 30 _ rfl (g) ((off + k * 26)) rfl _ (A) _ _ 26 (hgA) Try.underlying30 rfl (by kernel_rfl) (by have := HZ.out; omega) (L k) (HE.out) ?_) | ((with_reducible refine at_alloc 30 ?_); refine wpList_alloc_named rfl 30 rfl (z26) (by kernel_rfl) ?_) | ((with_reducible refine at_store 30 ?_); refine wpList_store_new rfl 30 _ _ rfl (L k) _ _ _ rfl (by simp) rfl (by rw [hleg.size]; kernel_rfl) (by rw [hleg.size]; rfl) (hleg.all) ?_) | ((with_reducible refine at_load 26 ?_); refine wpList_load_part rfl 26 _ rfl (wr.heap.size) (6) rfl _ (L k) _ _ 16 (heap_alloc_new _ _) Try.underlying26 rfl (by kernel_rfl) (by rw [hleg.size]; omega) (ls L k) (rfl) ?_) | (go_at_call 49; (with_reducible refine (cw _).mono ?_); rintro e w1 ⟨rfl, hb1⟩; have hg1 := kept hb1 (heap_alloc_new _ _); have hc1 := (cells_of hg1).1))
                go_roundg (n - (k + 1))
                case measure => omega
                case rel => exact ⟨k + 1, by omega, rfl, by rw [HT0.out], by rw [HT1.out]; congr 1; omega, by rw [HT2.out]; congr 1; omega, by rw [HT3.out], by go_num, below_then hb (below_then (below_new _ _) hb1)⟩
              · go_wp2_with (first | ((with_reducible refine at_load 30 ?_); refine wpList_load_part rfl 30 _ rfl (g) ((off + k * 26)) rfl _ (A) _ _ 26 (hgA) Try.underlying30 rfl (by kernel_rfl) (by have := HZ.out; omega) (L k) (HE.out) ?_) | ((with_reducible refine at_alloc 30 ?_); refine wpList_alloc_named rfl 30 rfl (z26) (by kernel_rfl) ?_) | ((with_reducible refine at_store 30 ?_); refine wpList_store_new rfl 30 _ _ rfl (L k) _ _ _ rfl (by simp) rfl (by rw [hleg.size]; kernel_rfl) (by rw [hleg.size]; rfl) (hleg.all) ?_) | ((with_reducible refine at_load 26 ?_); refine wpList_load_part rfl 26 _ rfl (wr.heap.size) (6) rfl _ (L k) _ _ 16 (heap_alloc_new _ _) Try.underlying26 rfl (by kernel_rfl) (by rw [hleg.size]; omega) (ls L k) (rfl) ?_) | (go_at_call 49; (with_reducible refine (cw _).mono ?_); rintro e w1 ⟨rfl, hb1⟩; have hg1 := kept hb1 (heap_alloc_new _ _); have hc1 := (cells_of hg1).1))
                go_roundg (n - (k + 1))
                case measure => omega
                case rel => exact ⟨k + 1, by omega, rfl, by rw [HT0.out], by rw [HT1.out]; congr 1; omega, by rw [HT2.out]; congr 1; omega, by rw [HT3.out], by go_num, below_then hb (below_then (below_new _ _) hb1)⟩
      · have HSM := Lib.hid (HSM0.out (Or.inr e1))
        have HSR := Lib.hid (show rr L r (k + 1) = rr L r k by rw [HU.out, HSM.out]; rfl)
        have e1' : (lr L k == r) = false := by simpa using e1
        go_wp2_with (first | ((with_reducible refine at_load 30 ?_); refine wpList_load_part rfl 30 _ rfl (g) ((off + k * 26)) rfl _ (A) _ _ 26 (hgA) Try.underlying30 rfl (by kernel_rfl) (by have := HZ.out; omega) (L k) (HE.out) ?_) | ((with_reducible refine at_alloc 30 ?_); refine wpList_alloc_named rfl 30 rfl (z26) (by kernel_rfl) ?_) | ((with_reducible refine at_store 30 ?_); refine wpList_store_new rfl 30 _ _ rfl (L k) _ _ _ rfl (by simp) rfl (by rw [hleg.size]; kernel_rfl) (by rw [hleg.size]; rfl) (hleg.all) ?_))
        go_roundg (n - (k + 1))
        case measure => omega
        case rel => exact ⟨k + 1, by omega, rfl, by rw [HSM.out], by rw [HSM.out], by rw [HSM.out], by rw [HSR.out], by go_num, below_then hb (below_new _ _)⟩
    · obtain rfl : k = n := by omega
      have HG := Lib.hid (show mg (st L r k) = max 0 ((st L r k).sc - min (st L r k).lg (st L r k).sh * (st L r k).rt) from rfl)
      generalize hscv : (st L r k).sc = sc at *
      generalize hlgv : (st L r k).lg = lg at *
      generalize hshv : (st L r k).sh = sh at *
      generalize hrtv : (st L r k).rt = rt at *
      clear hscv hlgv hshv hrtv
      have HRA := Lib.hid (show (if lg = 0 ∧ sh = 0 then -1 else rt) = rr L r k from HRR.out.symm)
      generalize rr L r k = ra at *
      clear HRR
      by_cases e3 : lg = 0 ∧ sh = 0
      · obtain ⟨rfl, rfl⟩ := e3
        obtain rfl : ra = -1 := by rw [← HRA.out]; rfl
        rw [show min (0 : Int) 0 = 0 from rfl, Int.zero_mul] at HG
        by_cases e6 : 0 < sc
        · go_wp2
          go_ret
          refine ⟨congrArg (fun x => Ending.returned (Value.int .i64 x)) ?_, hb⟩
          rw [HG.out]
          omega
        · go_wp2
          go_ret
          refine ⟨congrArg (fun x => Ending.returned (Value.int .i64 x)) ?_, hb⟩
          rw [HG.out]
          omega
      · obtain rfl : ra = rt := by rw [← HRA.out, if_neg e3]
        by_cases hls : sh < lg
        · have hp1 : 0 ≤ sh * ra := Int.mul_nonneg d2 d3
          have hp2 : sh * ra ≤ 160000000 * 10000000 := Int.mul_le_mul (by omega) d3' d3 (by omega)
          rw [show min lg sh = sh by omega] at HG
          by_cases e6 : sh * ra < sc
          · go_wp2
            go_ret
            refine ⟨congrArg (fun x => Ending.returned (Value.int .i64 x)) ?_, hb⟩
            rw [HG.out]
            omega
          · go_wp2
            go_ret
            refine ⟨congrArg (fun x => Ending.returned (Value.int .i64 x)) ?_, hb⟩
            rw [HG.out]
            omega
        · have hp1 : 0 ≤ lg * ra := Int.mul_nonneg d1 d3
          have hp2 : lg * ra ≤ 160000000 * 10000000 := Int.mul_le_mul (by omega) d3' d3 (by omega)
          rw [show min lg sh = lg by omega] at HG
          by_cases e6 : lg * ra < sc
          · go_wp2
            go_ret
            refine ⟨congrArg (fun x => Ending.returned (Value.int .i64 x)) ?_, hb⟩
            rw [HG.out]
            omega
          · go_wp2
            go_ret
            refine ⟨congrArg (fun x => Ending.returned (Value.int .i64 x)) ?_, hb⟩
            rw [HG.out]
            omega

theorem st_zero {L : Nat → Array Value} (hL : ∀ i, IsLeg (L i)) : ∀ k, okTo L k = true → st L 0 k = ⟨0, 0, 0, 0⟩
  | 0, _ => rfl
  | k + 1, h => by
    have h4 := (okLeg_facts (hL k) (okTo_at h (Nat.lt_succ_self k))).2.2.2
    rw [st, if_pos (Or.inr (by omega)), st_zero hL k (okTo_mono h (by omega))]
theorem sum_one {L : Nat → Array Value} (hL : ∀ i, IsLeg (L i)) {n : Nat} (h : okTo L n = true) : sumTo L n 1 = 0 := by
  have : st L ((0 : Nat) : Int) n = ⟨0, 0, 0, 0⟩ := st_zero hL n h
  simp only [sumTo, this]
  rfl
theorem ext25 {A B : Array Value} {i : Nat} (h : A.extract i (i + 26) = B) (hs : i + 26 ≤ A.size) : A.extract i (i + 25) = B.extract 0 25 := by
  subst h
  rw [Array.extract_extract]
  congr 1
  omega
theorem at_ext {A B : Array Value} {i j : Nat} (h : A.extract i (i + 26) = B) (hs : i + 26 ≤ A.size) (hj : j < 26) : A[i + j]? = B[j]? := by
  subst h
  rw [Array.getElem?_extract, if_pos (by omega)]

theorem seenTo_mono {L : Nat → Array Value} {x : Int} {k n : Nat} (h : seenTo L x k = true) (hk : k ≤ n) : seenTo L x n = true := by
  induction n with
  | zero => have : k = 0 := by omega
            subst this; exact h
  | succ n ih =>
    by_cases e : k = n + 1
    · subst e; exact h
    · simp [seenTo, ih (by omega)]

set_option maxRecDepth 100000 in
set_option maxHeartbeats 1000000 in
theorem rmargin_any (L : Nat → Array Value) (a : Option Addr) (n cap : Nat) (w : World) (hL : ∀ i, IsLeg (L i)) (hA : Legs w a n L) (hn : n ≤ 9223372036854775807) :
    Calls Try.prog 29 #[.slice a n cap] w fun e w' => e = .returned (.tuple #[.int .i64 (mN L n), .int .i64 (mE L n)]) ∧ Below w.heap.size w w' := by
  by_cases hlong : 16 < n
  · have HF := Lib.hid (And.intro (show mN L n = 0 by simp [mN, hlong]) (show mE L n = 3 by simp [mE, hlong]))
    go_enter Try.func29, Try.ntmps29
    go_wp2
    go_ret2
    exact ⟨by rw [HF.out.1, HF.out.2]; rfl, Below.refl _ _⟩
  · have HF := Lib.hid (And.intro (show mN L n = if okTo L n then (if onceTo L n then sumTo L n 9 else 0) else 0 by simp [mN, hlong]) (show mE L n = if okTo L n then (if onceTo L n then 0 else 8) else 2 by simp [mE, hlong]))
    have HA := Lib.hid hA
    have HL := Lib.hid hL
    clear hA hL
    go_enter Try.func29, Try.ntmps29
    go_wp2
    go_loopg [4] n (fun gh i wr => ∃ k : Nat, k ≤ n ∧ gh = n - k ∧ i = .int .i64 k ∧ okTo L k = true ∧ Below w.heap.size w wr)
    case atStart => exact ⟨0, by omega, by omega, rfl, rfl, Below.refl _ _⟩
    case round =>
      obtain ⟨k, hk, rfl, rfl, hok, hb⟩ := hrel
      by_cases hlt : k < n
      · obtain ⟨g, off, A, t, fr, rfl, hgA, hszA, hexA⟩ := (HA.out.kept hb) k hlt
        have hleg := HL.out k
        obtain ⟨aq, bq1, bq2⟩ := hleg.q.i64
        change (L k)[25]? = some (.int .i64 (lq L k)) at aq
        change -9223372036854775808 ≤ lq L k at bq1
        change lq L k ≤ 9223372036854775807 at bq2
        have aq' : A[off + k * 26 + 25]? = some (.int .i64 (lq L k)) := by rw [at_ext hexA hszA (by omega)]; exact aq
        have HE := Lib.hid (ext25 hexA hszA)
        have HZ := Lib.hid hszA
        have HO := Lib.hid hok
        clear hexA hszA hok
        have hoff : okLeg L k = false → mN L n = 0 ∧ mE L n = 2 := fun h => by
          have : okTo L n = false := by
            rw [Bool.eq_false_iff]
            intro h'
            rw [okTo_at h' hlt] at h
            cases h
          rw [HF.out.1, HF.out.2, this]
          exact ⟨rfl, rfl⟩
        have HX := Lib.hid hoff
        have cm := fun w => rmay_any ((L k).extract 0 25) w hleg.spec
        clear hoff
        generalize hq : lq L k = q at *
        have HQ := Lib.hid hq
        clear hq
        cases hm : mayB ((L k).extract 0 25)
        · rw [hm] at cm
          have HM := Lib.hid (HX.out (by simp [okLeg, hm]))
          go_wp2_with (first | ((with_reducible refine at_load 28 ?_); refine wpList_load_part rfl 28 _ rfl (g) ((off + k * 26)) rfl _ (A) _ _ 25 (hgA) Try.underlying28 rfl (by kernel_rfl) (by have := HZ.out; omega) ((L k).extract 0 25) (HE.out) ?_) | (go_at_call 47; (with_reducible refine (cm _).mono ?_); rintro e w1 ⟨rfl, hb1⟩; have hg1 := kept hb1 hgA; have hc1 := cellF hg1))
          go_ret2
          exact ⟨by rw [HM.out.1, HM.out.2]; rfl, below_then hb hb1⟩
        · rw [hm] at cm
          by_cases h1 : 10000000 < q
          · have HM := Lib.hid (HX.out (by simp [okLeg, hm, HQ.out, inB]; omega))
            go_wp2_with (first | ((with_reducible refine at_load 28 ?_); refine wpList_load_part rfl 28 _ rfl (g) ((off + k * 26)) rfl _ (A) _ _ 25 (hgA) Try.underlying28 rfl (by kernel_rfl) (by have := HZ.out; omega) ((L k).extract 0 25) (HE.out) ?_) | (go_at_call 47; (with_reducible refine (cm _).mono ?_); rintro e w1 ⟨rfl, hb1⟩; have hg1 := kept hb1 hgA; have hc1 := cellF hg1))
            go_ret2
            exact ⟨by rw [HM.out.1, HM.out.2]; rfl, below_then hb hb1⟩
          · by_cases h2 : q < -10000000
            · have HM := Lib.hid (HX.out (by simp [okLeg, hm, HQ.out, inB]; omega))
              go_wp2_with (first | ((with_reducible refine at_load 28 ?_); refine wpList_load_part rfl 28 _ rfl (g) ((off + k * 26)) rfl _ (A) _ _ 25 (hgA) Try.underlying28 rfl (by kernel_rfl) (by have := HZ.out; omega) ((L k).extract 0 25) (HE.out) ?_) | (go_at_call 47; (with_reducible refine (cm _).mono ?_); rintro e w1 ⟨rfl, hb1⟩; have hg1 := kept hb1 hgA; have hc1 := cellF hg1))
              go_ret2
              exact ⟨by rw [HM.out.1, HM.out.2]; rfl, below_then hb hb1⟩
            · have HK := Lib.hid (show okTo L (k + 1) = true by simp [okTo, HO.out, okLeg, hm, HQ.out, inB]; omega)
              go_wp2_with (first | ((with_reducible refine at_load 28 ?_); refine wpList_load_part rfl 28 _ rfl (g) ((off + k * 26)) rfl _ (A) _ _ 25 (hgA) Try.underlying28 rfl (by kernel_rfl) (by have := HZ.out; omega) ((L k).extract 0 25) (HE.out) ?_) | (go_at_call 47; (with_reducible refine (cm _).mono ?_); rintro e w1 ⟨rfl, hb1⟩; have hg1 := kept hb1 hgA; have hc1 := cellF hg1))
              go_roundg (n - (k + 1))
              case measure => omega
              case rel => exact ⟨k + 1, by omega, rfl, by go_num, HK.out, below_then hb hb1⟩
      · obtain rfl : k = n := by omega
        have HOK := Lib.hid hok
        clear hok
        go_wp2
        go_loopg [5] k (fun gh i wr => ∃ j : Nat, j ≤ k ∧ gh = k - j ∧ i = .int .i64 j ∧ onceTo L j = true ∧ Below w.heap.size w wr)
        case atStart => exact ⟨0, by omega, by omega, rfl, rfl, hb⟩
        case round =>
          clear hb
          obtain ⟨j, hj, rfl, rfl, hon, hb⟩ := hrel
          by_cases hlt : j < k
          · have HON := Lib.hid hon
            clear hon
            go_wp2
            go_loopg [6] j (fun gh i wr => ∃ m : Nat, m ≤ j ∧ gh = j - m ∧ i = .int .i64 m ∧ seenTo L (ln L j) m = false ∧ Below w.heap.size w wr)
            case atStart => exact ⟨0, by omega, by omega, rfl, rfl, hb⟩
            case round =>
              clear hb
              obtain ⟨m, hm, rfl, rfl, hse, hb⟩ := hrel
              by_cases hlt2 : m < j
              · obtain ⟨g, off, A, t, fr, rfl, hgA, hszA, hexA⟩ := (HA.out.kept hb) j hlt
                obtain ⟨g2, off2, A2, t2, fr2, hpp, hgA2, hszA2, hexA2⟩ := (HA.out.kept hb) m (by omega)
                cases hpp
                have hmk : m < k := by omega
                rw [hgA] at hgA2
                cases hgA2
                obtain ⟨an, bn⟩ := (HL.out j).c0
                obtain ⟨am, bm⟩ := (HL.out m).c0
                have an' : A[off + j * 26]? = some (.int .u32 (ln L j)) := by have := at_ext hexA hszA (j := 0) (by omega); rw [Nat.add_zero] at this; rw [this]; exact an
                have am' : A[off + m * 26]? = some (.int .u32 (ln L m)) := by have := at_ext hexA2 hszA2 (j := 0) (by omega); rw [Nat.add_zero] at this; rw [this]; exact am
                have HSE := Lib.hid hse
                have HZ := Lib.hid hszA
                clear hse hexA hexA2 hszA hszA2 an am
                have hcA := cellF hgA
                have hs1 : seenTo L (ln L j) (m + 1) = (seenTo L (ln L j) m || decide (ln L m = ln L j)) := rfl
                have HS1 := Lib.hid hs1
                clear hs1
                have HO2 := Lib.hid (show onceTo L (j + 1) = (onceTo L j && !seenTo L (ln L j) j) from rfl)
                by_cases hne : ln L j = ln L m
                · have hno : onceTo L k = false := by
                    rw [Bool.eq_false_iff]; intro h'
                    have h1 := onceTo_mono h' (show j + 1 ≤ k by omega)
                    rw [HO2.out, seenTo_mono (HS1.out.trans (by simp [hne])) (show m + 1 ≤ j by omega)] at h1
                    simp at h1
                  have HM := Lib.hid (And.intro (show mN L k = 0 by rw [HF.out.1, HOK.out, hno]; rfl) (show mE L k = 8 by rw [HF.out.2, HOK.out, hno]; rfl))
                  clear hno
                  generalize ln L j = x at *
                  generalize ln L m = y at *
                  have hxy : (x == y) = true := by simpa using hne
                  go_wp2
                  refine wp_region_below (by kernel_rfl) (by kernel_rfl) ?_
                  repeat (first | ((with_reducible apply q_skip); (case hw => rfl); (try simp only [Act.put, List.setIfInBounds_toArray, List.set_cons_zero, List.set_cons_succ])) | ((with_reducible apply q_val); (case hw => rfl); (case hv => intro wq hbq; have hcq := cellF (Ytnpjclodcgejgaa.kept hbq hgA); go_simp; try rfl); (try simp only [Act.put, List.setIfInBounds_toArray, List.set_cons_zero, List.set_cons_succ])))
                  refine q_nil ?_
                  intro w1 hb1
                  go_wp2
                  go_ret2
                  exact ⟨by rw [HM.out.1, HM.out.2]; rfl, below_then hb hb1⟩
                · have HK := Lib.hid (show seenTo L (ln L j) (m + 1) = false by rw [HS1.out, HSE.out]; simp [show ¬ ln L m = ln L j from fun h => hne h.symm])
                  generalize hxx : ln L j = x at *
                  generalize ln L m = y at *
                  have hxy : (x == y) = false := by simpa using hne
                  go_wp2
                  refine wp_region_below (by kernel_rfl) (by kernel_rfl) ?_
                  repeat (first | ((with_reducible apply q_skip); (case hw => rfl); (try simp only [Act.put, List.setIfInBounds_toArray, List.set_cons_zero, List.set_cons_succ])) | ((with_reducible apply q_val); (case hw => rfl); (case hv => intro wq hbq; have hcq := cellF (Ytnpjclodcgejgaa.kept hbq hgA); go_simp; try rfl); (try simp only [Act.put, List.setIfInBounds_toArray, List.set_cons_zero, List.set_cons_succ])))
                  refine q_nil ?_
                  intro w1 hb1
                  go_wp2
                  go_roundg (j - (m + 1))
                  case measure => omega
                  case rel => exact ⟨m + 1, by omega, rfl, by go_num, HK.out, below_then hb hb1⟩
              · obtain rfl : m = j := by omega
                have HK := Lib.hid (show onceTo L (m + 1) = true by simp [onceTo, HON.out, hse])
                clear hse
                go_wp2
                go_roundg (k - (m + 1))
                case measure => omega
                case rel => exact ⟨m + 1, by omega, rfl, by go_num, HK.out, hb⟩
          · obtain rfl : j = k := by omega
            have HM := Lib.hid (And.intro (show mN L j = sumTo L j 9 by rw [HF.out.1, HOK.out, hon]; rfl) (show mE L j = 0 by rw [HF.out.2, HOK.out, hon]; rfl))
            clear hon
            go_wp2
            go_loopg [7, 8] 9 (fun gh s i wr => ∃ r : Nat, 1 ≤ r ∧ r ≤ 9 ∧ gh = 10 - r ∧ i = .int .u8 r ∧ s = .int .i64 (sumTo L j r) ∧ Below w.heap.size w wr)
            case atStart => exact ⟨1, by omega, by omega, by omega, rfl, by rw [sum_one HL.out HOK.out], hb⟩
            case round =>
              clear hb
              obtain ⟨r, hr1, hr, rfl, rfl, rfl, hb⟩ := hrel
              have hbs := sum_bd HL.out j HOK.out (by omega) r
              by_cases hlt : r < 9
              · have hmg := mg_bd HL.out r j HOK.out (by omega)
                have cr := rroute_any L a j cap r wr HL.out (HA.out.kept hb) (by omega) HOK.out (by omega)
                have HS := Lib.hid (show sumTo L j (r + 1) = sumTo L j r + mg (st L r j) from rfl)
                generalize mg (st L r j) = mr at *
                generalize hss : sumTo L j r = sm at *
                clear hss
                go_wp2_with (first | (go_at_call 50; (with_reducible refine (cr).mono ?_); rintro e w1 ⟨rfl, hb1⟩))
                go_roundg (10 - (r + 1))
                case measure => omega
                case rel => exact ⟨r + 1, by omega, by omega, rfl, by go_num, by rw [HS.out], below_then hb hb1⟩
              · obtain rfl : r = 9 := by omega
                go_wp2
                go_ret2
                exact ⟨by rw [HM.out.1, HM.out.2]; rfl, hb⟩
end Go.Proofs.Ytnpjclodcgejgaa
