/- A stake's worst case, as the document says. Condition: the stake may be. -/
import Derived.Test.YtnpjclodcgejgaaMayK
namespace Go.Proofs.Ytnpjclodcgejgaa
set_option linter.unusedVariables false
set_option linter.unusedSimpArgs false
open Go.RowKit

set_option maxRecDepth 100000 in
set_option maxHeartbeats 1000000 in
theorem rworst_k (A : Array Value) (O : Nat → Array Value) (ad : Option Addr) (n c : Nat) (w : World) (hA : IsStk A) (hOo : ∀ i, IsOrd (O i)) (hO : Ords w ad n O) (h28 : A[28]? = some (.slice ad n c)) (hok : okK A O n = true) :
    Calls Try.prog 28 #[.agg A] w fun e w' => e = .returned (.int .i64 (kw A O n)) ∧ Below w.heap.size w w' := by
  have HSH := Lib.hid (stk_sh hA)
  have F := okK_facts hA hok
  obtain ⟨aq, _, _⟩ := hA.q.i64
  obtain ⟨ap, _, _⟩ := hA.p.i64
  have q1 := F.q.1
  have q2 := F.q.2
  have p1 := F.p.1
  have p2 := F.p.2
  have HA := Lib.hid hA
  have HL := Lib.hid hOo
  have HO := Lib.hid hO
  have HOK := Lib.hid F.o
  have hn := F.le
  have hsz := Lib.hid hA.size
  have HSW := Lib.hid F.sw
  have HBD := Lib.hid (fun k (hk : k ≤ n) => o_bd F.p k (okOs_mono F.o hk))
  have HW := Lib.hid (show kw A O n = wo (N A 27) O n + max 0 (max (wk (A.extract 6 22) (N A 25 + bu O n) 16) (wk (A.extract 6 22) (N A 25 - se O n) 16) - wk (A.extract 6 22) (N A 25) 16) from rfl)
  have HWB := Lib.hid F.w
  have hE := Lib.hid (extract_all hA.size)
  clear hA hOo hO F
  generalize kw A O n = kwv at *
  generalize N A 25 = q at *
  generalize N A 27 = p at *
  go_enter Try.func28, Try.ntmps28
  go_wp2
  go_loopg [3, 4, 5, 6] n (fun gh b s x i wr => ∃ k : Nat, k ≤ n ∧ gh = n - k ∧ i = .int .i64 k ∧ b = .int .i64 (q + bu O k) ∧ s = .int .i64 (q - se O k) ∧ x = .int .i64 (wo p O k) ∧ wr.heap[w.heap.size]? = some (.cells A 33 (0, 0)) ∧ Below w.heap.size w wr)
  case atStart => exact ⟨0, by omega, by omega, rfl, by simp [bu], by simp [se], rfl, by repeat (first | exact heap_new (by simp; done) | refine heap_up ?_), below_new _ _⟩
  case round =>
    obtain ⟨k, hk, rfl, rfl, rfl, rfl, rfl, hg, hb⟩ := hrel
    have cA0 := (cells_of hg).1
    by_cases hlt : k < n
    · obtain ⟨g, off, B, t, fr, rfl, hgB, hszB, hexB⟩ := (HO.out.kept hb) k hlt
      have hord := HL.out k
      have hob := okO_facts (okOs_at HOK.out hlt)
      have ho := ow_bd ⟨p1, p2⟩ (okOs_at HOK.out hlt)
      have c2 : (O k)[2]? = some (.bool (Bo (O k) 2)) := hord.b
      have c3 := hord.p.1
      have c4 := hord.l.1
      have hd := HBD.out k (by omega)
      have HE := Lib.hid hexB
      have HZ := Lib.hid hszB
      clear hexB hszB
      have hw1 : wo p O (k + 1) = wo p O k + ow p (O k) := rfl
      have hw2 : bu O (k + 1) = bu O k + if Bo (O k) 2 then N (O k) 4 else 0 := rfl
      have hw3 : se O (k + 1) = se O k + if Bo (O k) 2 then 0 else N (O k) 4 := rfl
      have how : ow p (O k) = max 0 (if Bo (O k) 2 then N (O k) 3 - p else p - N (O k) 3) * N (O k) 4 := rfl
      have H1 := Lib.hid hw1
      have H2 := Lib.hid hw2
      have H3 := Lib.hid hw3
      clear hw1 hw2 hw3
      generalize ow p (O k) = ov at *
      generalize wo p O k = wv at *
      generalize bu O k = bv at *
      generalize se O k = sv at *
      have hg2 := heap_up (o := Obj.cells (O k) 41) hg
      have cA := (cells_of hg2).1
      have hb2 := below_alloc hb (Obj.cells (O k) 41)
      have hdb := hd.2
      have hds := hd.1
      cases hbo : Bo (O k) 2
      · rw [hbo] at how c2 H2 H3
        clear hbo
        generalize N (O k) 4 = lv at *
        generalize N (O k) 3 = pv at *
        rw [show (if false = true then pv - p else p - pv) = p - pv from rfl] at how
        by_cases hpv : pv < p
        · have HM := Lib.hid (show wrap64 (wv + wrap64 ((p - pv) * lv)) = wv + ov by rw [show (p - pv) * lv = ov by rw [how, show max 0 (p - pv) = p - pv by omega]]; unfold wrap64; omega)
          clear how
          go_wp2_with (first | ((with_reducible refine at_load 41 ?_); refine wpList_load_part rfl 41 _ rfl (g) ((off + k * 5)) rfl _ (B) _ _ 5 (hgB) Try.underlying41 rfl (by kernel_rfl) (by have := HZ.out; omega) (O k) (HE.out) ?_) | ((with_reducible refine at_alloc 41 ?_); refine wpList_alloc_named rfl 41 rfl (z5) (by kernel_rfl) ?_) | ((with_reducible refine at_store 41 ?_); refine wpList_store_new rfl 41 _ _ rfl (O k) _ _ _ rfl (by simp) rfl (by rw [hord.size]; kernel_rfl) (by rw [hord.size]; rfl) (hord.all) ?_))
          go_roundg (n - (k + 1))
          case measure => omega
          case rel => exact ⟨k + 1, by omega, rfl, by go_num, by rw [H2.out]; simp; try omega, by rw [H3.out]; simp; try omega, by rw [H1.out]; first | (rw [HM.out]; done) | (rw [HM.out, Int.add_zero]; done), hg2, hb2⟩
        · have HM := Lib.hid (show ov = 0 by rw [how, show max 0 (p - pv) = 0 by omega, Int.zero_mul])
          clear how
          go_wp2_with (first | ((with_reducible refine at_load 41 ?_); refine wpList_load_part rfl 41 _ rfl (g) ((off + k * 5)) rfl _ (B) _ _ 5 (hgB) Try.underlying41 rfl (by kernel_rfl) (by have := HZ.out; omega) (O k) (HE.out) ?_) | ((with_reducible refine at_alloc 41 ?_); refine wpList_alloc_named rfl 41 rfl (z5) (by kernel_rfl) ?_) | ((with_reducible refine at_store 41 ?_); refine wpList_store_new rfl 41 _ _ rfl (O k) _ _ _ rfl (by simp) rfl (by rw [hord.size]; kernel_rfl) (by rw [hord.size]; rfl) (hord.all) ?_))
          go_roundg (n - (k + 1))
          case measure => omega
          case rel => exact ⟨k + 1, by omega, rfl, by go_num, by rw [H2.out]; simp; try omega, by rw [H3.out]; simp; try omega, by rw [H1.out]; first | (rw [HM.out]; done) | (rw [HM.out, Int.add_zero]; done), hg2, hb2⟩
      · rw [hbo] at how c2 H2 H3
        clear hbo
        generalize N (O k) 4 = lv at *
        generalize N (O k) 3 = pv at *
        rw [show (if true = true then pv - p else p - pv) = pv - p from rfl] at how
        by_cases hpv : p < pv
        · have HM := Lib.hid (show wrap64 (wv + wrap64 (-(p - pv) * lv)) = wv + ov by rw [show -(p - pv) * lv = ov by rw [how, show max 0 (pv - p) = pv - p by omega, show -(p - pv) = pv - p by omega]]; unfold wrap64; omega)
          clear how
          go_wp2_with (first | ((with_reducible refine at_load 41 ?_); refine wpList_load_part rfl 41 _ rfl (g) ((off + k * 5)) rfl _ (B) _ _ 5 (hgB) Try.underlying41 rfl (by kernel_rfl) (by have := HZ.out; omega) (O k) (HE.out) ?_) | ((with_reducible refine at_alloc 41 ?_); refine wpList_alloc_named rfl 41 rfl (z5) (by kernel_rfl) ?_) | ((with_reducible refine at_store 41 ?_); refine wpList_store_new rfl 41 _ _ rfl (O k) _ _ _ rfl (by simp) rfl (by rw [hord.size]; kernel_rfl) (by rw [hord.size]; rfl) (hord.all) ?_))
          go_roundg (n - (k + 1))
          case measure => omega
          case rel => exact ⟨k + 1, by omega, rfl, by go_num, by rw [H2.out]; simp; try omega, by rw [H3.out]; simp; try omega, by rw [H1.out]; first | (rw [HM.out]; done) | (rw [HM.out, Int.add_zero]; done), hg2, hb2⟩
        · have HM := Lib.hid (show ov = 0 by rw [how, show max 0 (pv - p) = 0 by omega, Int.zero_mul])
          clear how
          go_wp2_with (first | ((with_reducible refine at_load 41 ?_); refine wpList_load_part rfl 41 _ rfl (g) ((off + k * 5)) rfl _ (B) _ _ 5 (hgB) Try.underlying41 rfl (by kernel_rfl) (by have := HZ.out; omega) (O k) (HE.out) ?_) | ((with_reducible refine at_alloc 41 ?_); refine wpList_alloc_named rfl 41 rfl (z5) (by kernel_rfl) ?_) | ((with_reducible refine at_store 41 ?_); refine wpList_store_new rfl 41 _ _ rfl (O k) _ _ _ rfl (by simp) rfl (by rw [hord.size]; kernel_rfl) (by rw [hord.size]; rfl) (hord.all) ?_))
          go_roundg (n - (k + 1))
          case measure => omega
          case rel => exact ⟨k + 1, by omega, rfl, by go_num, by rw [H2.out]; simp; try omega, by rw [H3.out]; simp; try omega, by rw [H1.out]; first | (rw [HM.out]; done) | (rw [HM.out, Int.add_zero]; done), hg2, hb2⟩
    · obtain rfl : k = n := by omega
      have hd := HBD.out k (by omega)
      have hd1 := hd.1
      have hd2 := hd.2
      have b1 := wk_bd (S := A.extract 6 22) (q := q + bu O k) (by omega) HSW.out 16 (by omega)
      have b2 := wk_bd (S := A.extract 6 22) (q := q - se O k) (by omega) HSW.out 16 (by omega)
      have b3 := wk_bd (S := A.extract 6 22) (q := q) (by omega) HSW.out 16 (by omega)
      have c1 := fun w' => rworst_any (A.extract 6 22) (q + bu O k) w' HSH.out HSW.out (by omega)
      have c2 := fun w' => rworst_any (A.extract 6 22) (q - se O k) w' HSH.out HSW.out (by omega)
      have c3 := fun w' => rworst_any (A.extract 6 22) q w' HSH.out HSW.out (by omega)
      clear hd
      generalize wk (A.extract 6 22) (q + bu O k) 16 = x1 at *
      generalize wk (A.extract 6 22) (q - se O k) 16 = x2 at *
      generalize wk (A.extract 6 22) q 16 = x3 at *
      generalize wo p O k = wv at *
      generalize bu O k = bv at *
      generalize se O k = sv at *
      by_cases hx : x1 < x2
      · by_cases hy : x3 < x2
        · have HV := Lib.hid (show kwv = wv + (x2 - x3) by have := HW.out; omega)
          go_wp2_with (first | ((with_reducible refine at_load 26 ?_); refine wpList_load_part rfl 26 _ rfl (w.heap.size) (6) rfl _ (A) _ _ 16 (hg) Try.underlying26 rfl (by kernel_rfl) (by rw [hsz.out]; omega) (A.extract 6 22) (rfl) ?_) | ((with_reducible refine at_load 26 ?_); refine wpList_load_part rfl 26 _ rfl (w.heap.size) (6) rfl _ (A) _ _ 16 (hg1) Try.underlying26 rfl (by kernel_rfl) (by rw [hsz.out]; omega) (A.extract 6 22) (rfl) ?_) | ((with_reducible refine at_load 26 ?_); refine wpList_load_part rfl 26 _ rfl (w.heap.size) (6) rfl _ (A) _ _ 16 (hg2) Try.underlying26 rfl (by kernel_rfl) (by rw [hsz.out]; omega) (A.extract 6 22) (rfl) ?_) | (go_at_call 49; (with_reducible refine (c3 _).mono ?_); rintro e w1 ⟨rfl, hb1⟩; have hg1 := kept hb1 hg; have cA1 := (cells_of hg1).1) | (go_at_call 49; (with_reducible refine (c1 _).mono ?_); rintro e w2 ⟨rfl, hb2⟩; have hg2 := kept hb2 hg1; have cA2 := (cells_of hg2).1) | (go_at_call 49; (with_reducible refine (c2 _).mono ?_); rintro e w3 ⟨rfl, hb3⟩))
          all_goals go_ret
          all_goals exact ⟨ret_int (by have := HV.out; omega), below_then (below_then (below_then hb hb1) hb2) hb3⟩
        · have HV := Lib.hid (show kwv = wv by have := HW.out; omega)
          go_wp2_with (first | ((with_reducible refine at_load 26 ?_); refine wpList_load_part rfl 26 _ rfl (w.heap.size) (6) rfl _ (A) _ _ 16 (hg) Try.underlying26 rfl (by kernel_rfl) (by rw [hsz.out]; omega) (A.extract 6 22) (rfl) ?_) | ((with_reducible refine at_load 26 ?_); refine wpList_load_part rfl 26 _ rfl (w.heap.size) (6) rfl _ (A) _ _ 16 (hg1) Try.underlying26 rfl (by kernel_rfl) (by rw [hsz.out]; omega) (A.extract 6 22) (rfl) ?_) | ((with_reducible refine at_load 26 ?_); refine wpList_load_part rfl 26 _ rfl (w.heap.size) (6) rfl _ (A) _ _ 16 (hg2) Try.underlying26 rfl (by kernel_rfl) (by rw [hsz.out]; omega) (A.extract 6 22) (rfl) ?_) | (go_at_call 49; (with_reducible refine (c3 _).mono ?_); rintro e w1 ⟨rfl, hb1⟩; have hg1 := kept hb1 hg; have cA1 := (cells_of hg1).1) | (go_at_call 49; (with_reducible refine (c1 _).mono ?_); rintro e w2 ⟨rfl, hb2⟩; have hg2 := kept hb2 hg1; have cA2 := (cells_of hg2).1) | (go_at_call 49; (with_reducible refine (c2 _).mono ?_); rintro e w3 ⟨rfl, hb3⟩))
          all_goals go_ret
          all_goals exact ⟨ret_int (by have := HV.out; omega), below_then (below_then (below_then hb hb1) hb2) hb3⟩
      · by_cases hy : x3 < x1
        · have HV := Lib.hid (show kwv = wv + (x1 - x3) by have := HW.out; omega)
          go_wp2_with (first | ((with_reducible refine at_load 26 ?_); refine wpList_load_part rfl 26 _ rfl (w.heap.size) (6) rfl _ (A) _ _ 16 (hg) Try.underlying26 rfl (by kernel_rfl) (by rw [hsz.out]; omega) (A.extract 6 22) (rfl) ?_) | ((with_reducible refine at_load 26 ?_); refine wpList_load_part rfl 26 _ rfl (w.heap.size) (6) rfl _ (A) _ _ 16 (hg1) Try.underlying26 rfl (by kernel_rfl) (by rw [hsz.out]; omega) (A.extract 6 22) (rfl) ?_) | ((with_reducible refine at_load 26 ?_); refine wpList_load_part rfl 26 _ rfl (w.heap.size) (6) rfl _ (A) _ _ 16 (hg2) Try.underlying26 rfl (by kernel_rfl) (by rw [hsz.out]; omega) (A.extract 6 22) (rfl) ?_) | (go_at_call 49; (with_reducible refine (c3 _).mono ?_); rintro e w1 ⟨rfl, hb1⟩; have hg1 := kept hb1 hg; have cA1 := (cells_of hg1).1) | (go_at_call 49; (with_reducible refine (c1 _).mono ?_); rintro e w2 ⟨rfl, hb2⟩; have hg2 := kept hb2 hg1; have cA2 := (cells_of hg2).1) | (go_at_call 49; (with_reducible refine (c2 _).mono ?_); rintro e w3 ⟨rfl, hb3⟩))
          all_goals go_ret
          all_goals exact ⟨ret_int (by have := HV.out; omega), below_then (below_then (below_then hb hb1) hb2) hb3⟩
        · have HV := Lib.hid (show kwv = wv by have := HW.out; omega)
          go_wp2_with (first | ((with_reducible refine at_load 26 ?_); refine wpList_load_part rfl 26 _ rfl (w.heap.size) (6) rfl _ (A) _ _ 16 (hg) Try.underlying26 rfl (by kernel_rfl) (by rw [hsz.out]; omega) (A.extract 6 22) (rfl) ?_) | ((with_reducible refine at_load 26 ?_); refine wpList_load_part rfl 26 _ rfl (w.heap.size) (6) rfl _ (A) _ _ 16 (hg1) Try.underlying26 rfl (by kernel_rfl) (by rw [hsz.out]; omega) (A.extract 6 22) (rfl) ?_) | ((with_reducible refine at_load 26 ?_); refine wpList_load_part rfl 26 _ rfl (w.heap.size) (6) rfl _ (A) _ _ 16 (hg2) Try.underlying26 rfl (by kernel_rfl) (by rw [hsz.out]; omega) (A.extract 6 22) (rfl) ?_) | (go_at_call 49; (with_reducible refine (c3 _).mono ?_); rintro e w1 ⟨rfl, hb1⟩; have hg1 := kept hb1 hg; have cA1 := (cells_of hg1).1) | (go_at_call 49; (with_reducible refine (c1 _).mono ?_); rintro e w2 ⟨rfl, hb2⟩; have hg2 := kept hb2 hg1; have cA2 := (cells_of hg2).1) | (go_at_call 49; (with_reducible refine (c2 _).mono ?_); rintro e w3 ⟨rfl, hb3⟩))
          all_goals go_ret
          all_goals exact ⟨ret_int (by have := HV.out; omega), below_then (below_then (below_then hb hb1) hb2) hb3⟩
end Go.Proofs.Ytnpjclodcgejgaa
