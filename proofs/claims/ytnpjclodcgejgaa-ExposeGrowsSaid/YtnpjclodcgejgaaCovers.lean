/- The statement ExposeCovers returns true, whatever comes in. No condition but that the numbers fit their kinds. -/
import Derived.Test.YtnpjclodcgejgaaApart
import Derived.Test.YtnpjclodcgejgaaIntsIn
namespace Go.Proofs.Ytnpjclodcgejgaa
set_option linter.unusedVariables false
set_option linter.unusedSimpArgs false
open Go.RowKit

section
variable {H : Type} {enc : TypeId × Value → H} {w : World} {spare : Nat → Bool} {held : Bool}
/-- A stake that came in. -/
theorem stk_of {r : Reach} {b : Nat} {v : Value} {d : DataW H} {p : List MemPlace} (hv : Value.okWide Try.prog w r b 33 v) (h : DataW.Trod enc Try.prog w 0 spare held 33 v d p) :
    ∃ (A : Array Value) (a : Option Addr) (n c : Nat) (O : Nat → Array Value), v = .agg A ∧ IsStk A ∧ A[28]? = some (.slice a n c) ∧ n ≤ c ∧ c ≤ 9223372036854775807 ∧ (∀ i, IsOrd (O i)) ∧ Ords w a n O ∧ (a = none → n = 0 ∧ c = 0) := by
  obtain ⟨m, hm⟩ := h
  unfold Value.okWide at hv
  simp only [Try.underlying33] at hv
  obtain ⟨cs, rfl, _⟩ := hv
  obtain ⟨h1, a, n, c, O, h2⟩ := stk_trod hm
  simp only [Value.cells] at h1 h2
  exact ⟨cs, a, n, c, O, rfl, by simpa using h1, by simpa using h2⟩
end

theorem o_mono {p : Int} {O : Nat → Array Value} (hp : 1 ≤ p ∧ p ≤ 10000000) {k : Nat} : ∀ n, okOs O n = true → k ≤ n → bu O k ≤ bu O n ∧ se O k ≤ se O n ∧ wo p O k ≤ wo p O n
  | 0, _, hk => by
    obtain rfl : k = 0 := by omega
    simp
  | n + 1, h, hk => by
    by_cases e : k = n + 1
    · subst e; simp
    · rw [okOs_s, Bool.and_eq_true] at h
      have ih := o_mono hp n h.1 (show k ≤ n by omega)
      have h1 := okO_facts h.2
      have h2 := ow_bd hp h.2
      simp only [bu, se, wo]
      split <;> omega
/-- between two quantities the scan is no more than the greater one there -/
theorem wk_mid (S : Array Value) {a b x : Int} (h1 : a ≤ x) (h2 : x ≤ b) : ∀ k, wk S x k ≤ max (wk S a k) (wk S b k)
  | 0 => by simp [wk]
  | k + 1 => by
    have ih := wk_mid S h1 h2 k
    simp only [wk]
    have h3 : -(x * N S k) ≤ max (-(a * N S k)) (-(b * N S k)) := by
      by_cases hs : 0 ≤ N S k
      · have := Int.mul_le_mul_of_nonneg_right h1 hs
        omega
      · have := Int.mul_le_mul_of_nonpos_right h2 (show N S k ≤ 0 by omega)
        omega
    omega
theorem fill_bd {d f l : Int} (hf : 0 ≤ f ∧ f ≤ l) (hl : l ≤ 1000000) (hd : -9999999 ≤ d ∧ d ≤ 9999999) : f * d ≤ max 0 d * l ∧ -9999999000000 ≤ f * d ∧ f * d ≤ 9999999000000 := by
  have h1 : f * d ≤ max 0 d * l := by
    by_cases hd0 : 0 ≤ d
    · rw [show max 0 d = d by omega, Int.mul_comm d l]
      exact Int.mul_le_mul_of_nonneg_right hf.2 hd0
    · rw [show max 0 d = 0 by omega, Int.zero_mul]
      exact Int.mul_nonpos_of_nonneg_of_nonpos hf.1 (by omega)
  have h3 : (f * d).natAbs = f.natAbs * d.natAbs := Int.natAbs_mul f d
  have h4 : f.natAbs * d.natAbs ≤ 1000000 * 9999999 := Nat.mul_le_mul (by omega) (by omega)
  refine ⟨h1, by omega, by omega⟩

theorem stks_single {w : World} {A : Array Value} {g : Nat} {ad : Option Addr} {n c : Nat} {O : Nat → Array Value} {t : TypeId} (hA : IsStk A) (hg : w.heap[g]? = some (.cells A t (0, 0))) (h28 : A[28]? = some (.slice ad n c)) (hO : Ords w ad n O) (hn : n ≤ c) (hc : c ≤ 9223372036854775807) (hz : ad = none → n = 0 ∧ c = 0) :
    Stks w (some ⟨g, 0, none⟩) 1 (fun _ => A) (fun _ => O) (fun _ => n) where
  at_ := fun i hi => by
    obtain rfl : i = 0 := by omega
    exact ⟨g, 0, A, _, _, rfl, hg, by have := hA.size; omega, by simpa using extract_all hA.size⟩
  or := fun i hi => ⟨ad, c, h28, hO, hn, hc, hz⟩
set_option maxRecDepth 100000 in
set_option maxHeartbeats 2000000 in
theorem covers_walk (A : Array Value) (ad : Option Addr) (n c : Nat) (O : Nat → Array Value) (az : Option Addr) (nz cz : Nat) (Z : Nat → Int) (W : World) (hA : IsStk A) (h28 : A[28]? = some (.slice ad n c)) (hn : n ≤ c) (hc : c ≤ 9223372036854775807) (hOo : ∀ i, IsOrd (O i)) (hO : Ords W ad n O) (hz : ad = none → n = 0 ∧ c = 0)
    (hZ : ∀ i, F64 (Z i)) (hI : Ints W az nz Z) (hnz : nz ≤ cz) (hcz : cz ≤ 9223372036854775807) (hzz : az = none → nz = 0 ∧ cz = 0) :
    Calls Try.prog 6 #[.agg A, .slice az nz cz] W fun e W' => e = .returned (.bool true) ∧ Below W.heap.size W W' := by
  by_cases h100 : 100 < n
  · go_enter Try.func6, Try.ntmps6
    go_wp2_with (first | (go_at_call 13; (with_reducible refine (known11 _).mono ?_); rintro e w5 ⟨rfl, hb5⟩))
    go_ret
    exact ⟨rfl, below_then (below_new _ _) hb5⟩
  · by_cases z100 : 100 < nz
    · go_enter Try.func6, Try.ntmps6
      go_wp2_with (first | (go_at_call 13; (with_reducible refine (known11 _).mono ?_); rintro e w5 ⟨rfl, hb5⟩))
      go_ret
      exact ⟨rfl, below_then (below_new _ _) hb5⟩
    · have HO := Lib.hid hO
      have HI := Lib.hid hI
      have HL := Lib.hid hOo
      have HZ := Lib.hid hZ
      have hsz0 := Lib.hid hA.size
      have hE0 := Lib.hid (extract_all hA.size)
      have cm := need_any (fun _ => A) (fun _ => O) (fun _ => n) (some ⟨W.heap.size + 1, 0, none⟩) 1 1 ((W.alloc (.cells A 33)).alloc (.cells A 33)) (fun _ => hA) (fun _ => hOo)
        (stks_single hA (heap_alloc2_new _ _ _) h28 ((hO.kept (below_new _ _)).kept (below_new _ _)) hn hc hz) (by omega)
      clear hO hI hOo hZ
      by_cases hok : okK A O n = true
      · obtain ⟨o1, o2⟩ := one_need (S := fun _ => A) (O := fun _ => O) (m := fun _ => n) (k := 0) hok
        rw [o1, o2] at cm
        clear o1 o2
        have F := okK_facts hA hok
        obtain ⟨aq, _, _⟩ := hA.q.i64
        obtain ⟨ap, _, _⟩ := hA.p.i64
        have q1 := F.q.1
        have q2 := F.q.2
        have p1 := F.p.1
        have p2 := F.p.2
        have HSH := Lib.hid (stk_sh hA)
        have hsz := Lib.hid hA.size
        have HSW := Lib.hid F.sw
        have hE := Lib.hid (extract_all hA.size)
        have HSA := Lib.hid hA.all
        have HMN := Lib.hid (fun k (hk : k ≤ n) => o_mono F.p n F.o hk)
        have HBD := Lib.hid (fun k (hk : k ≤ n) => o_bd F.p k (okOs_mono F.o hk))
        have HOK := Lib.hid F.o
        have HW := Lib.hid (show kw A O n = wo (N A 27) O n + max 0 (max (wk (A.extract 6 22) (N A 25 + bu O n) 16) (wk (A.extract 6 22) (N A 25 - se O n) 16) - wk (A.extract 6 22) (N A 25) 16) from rfl)
        have HWB := F.w
        have h250 := F.le
        clear F hA hok
        obtain ⟨R, hR⟩ : ∃ R, R = r3 (sumTo (lg (fun _ => A)) 1 9) (kw A O n) (max 0 (ku A)) := ⟨_, rfl⟩
        have n1 : R[1]? = some (.int .i64 (kw A O n)) := by rw [hR]; rfl
        have HR3 := Lib.hid (show R.size = 3 by rw [hR]; rfl)
        have HRa := Lib.hid (show R.all (·.oneCell') = true by rw [hR]; exact r3_all _ _ _)
        rw [← hR] at cm
        clear hR
        have b3 := wk_bd (S := A.extract 6 22) (q := N A 25) (by omega) HSW.out 16 (by omega)
        have cs := fun w => scan_any (A.extract 6 22) (N A 25) w HSH.out (by unfold F64; omega)
        rw [show scN (A.extract 6 22) (N A 25) = wk (A.extract 6 22) (N A 25) 16 by unfold scN; rw [HSW.out, inB_iff.2 (by omega)]; rfl, show scE (A.extract 6 22) (N A 25) = 0 by unfold scE; rw [HSW.out, inB_iff.2 (by omega)]; rfl] at cs
        have CS := Lib.hid (fun x (hx : -1000000000 ≤ x ∧ x ≤ 1000000000) w => show Calls Try.prog 18 #[.agg (A.extract 6 22), .int .i64 x] w fun e w' => e = .returned (.tuple #[.int .i64 (wk (A.extract 6 22) x 16), .int .i64 0]) ∧ Below w.heap.size w w' from by
          have := scan_any (A.extract 6 22) x w HSH.out (by unfold F64; omega)
          rw [show scN (A.extract 6 22) x = wk (A.extract 6 22) x 16 by unfold scN; rw [HSW.out, inB_iff.2 hx]; rfl, show scE (A.extract 6 22) x = 0 by unfold scE; rw [HSW.out, inB_iff.2 hx]; rfl] at this
          exact this)
        generalize kw A O n = kwv at *
        generalize N A 25 = q at *
        generalize N A 27 = p at *
        generalize hx3 : wk (A.extract 6 22) q 16 = x3 at *
        clear hx3
        have d1 : decide ((100 : Int) < (n : Int)) = false := decide_eq_false (by omega)
        have d2 : decide ((100 : Int) < (nz : Int)) = false := decide_eq_false (by omega)
        go_enter Try.func6, Try.ntmps6
        go_wp2_with (first | ((with_reducible refine at_load 33 ?_); refine wpList_load_part rfl 33 _ rfl (W.heap.size) (0) rfl _ (A) _ _ 29 (heap_alloc_new _ _) Try.underlying33 rfl (by kernel_rfl) (by rw [hsz0.out]; omega) (A) (hE0.out) ?_) | ((with_reducible refine at_slice1 22 ?_); refine wpList_slice_stk rfl _ rfl A rfl hsz0.out ?_) | (go_at_call 14; (with_reducible refine (cm).mono ?_); rintro e w1 ⟨rfl, hb1⟩; have hg1 := kept hb1 (heap_alloc2_old W _ _); have cA1 := (cells_of (heap_up (o := Obj.cells R 35) hg1)).1) | ((with_reducible refine at_alloc 35 ?_); refine wpList_alloc_named rfl 35 rfl (r3 0 0 0) (by kernel_rfl) ?_) | ((with_reducible refine at_store 35 ?_); refine wpList_store_new rfl 35 _ _ rfl (R) _ _ _ rfl (by simp) rfl (by rw [HR3.out]; kernel_rfl) (by rw [HR3.out]; rfl) (HRa.out) ?_) | ((with_reducible refine at_load 26 ?_); refine wpList_load_part rfl 26 _ rfl (W.heap.size) (6) rfl _ (A) _ _ 16 (heap_up hg1) Try.underlying26 rfl (by kernel_rfl) (by rw [hsz0.out]; omega) (A.extract 6 22) (rfl) ?_) | (go_at_call 18; (with_reducible refine (cs _).mono ?_); rintro e w2 ⟨rfl, hb2⟩; have hg2 := kept hb2 (heap_up hg1); have cA2 := (cells_of hg2).1))
        have hgR2 := kept hb2 (heap_alloc_new w1 (Obj.cells R 35))
        have hB2 := below_then (below_alloc (below_then (below_alloc (below_new W (Obj.cells A 33)) (Obj.cells A 33)) hb1) (Obj.cells R 35)) hb2
        go_loopg [9, 10, 52] n (fun gh x l i wr => ∃ (k : Nat) (qv lv : Int), k ≤ n ∧ gh = n - k ∧ i = .int .i64 k ∧ x = .int .i64 qv ∧ l = .int .i64 lv ∧ q - se O k ≤ qv ∧ qv ≤ q + bu O k ∧ lv ≤ wo p O k ∧ -(k * 9999999000000 : Int) ≤ lv ∧
          wr.heap[W.heap.size]? = some (.cells A 33 (0, 0)) ∧ wr.heap[w1.heap.size]? = some (.cells R 35 (0, 0)) ∧ Below W.heap.size W wr)
        case atStart => exact ⟨0, q, 0, by omega, by omega, rfl, rfl, rfl, by simp [se], by simp [bu], by simp [wo], by omega, hg2, hgR2, hB2⟩
        case round =>
          clear hg1 cA1 hb1 hb2 hg2 cA2 hgR2 hB2 cm cs
          obtain ⟨k, qv, lv, hk, rfl, rfl, rfl, rfl, hq1, hq2, hl1, hl2, hg, hgR, hb⟩ := hrel
          obtain ⟨mo1, mo2, mo3⟩ := HMN.out k hk
          have hbd := HBD.out n (Nat.le_refl _)
          have cA := (cells_of hg).1
          have hqb : -1000000000 ≤ qv ∧ qv ≤ 1000000000 := by omega
          by_cases hlt : k < n
          · by_cases hlz : k < nz
            · obtain ⟨g, off, B, t, fr, rfl, hgB, hszB, hexB⟩ := (HO.out.kept hb) k hlt
              obtain ⟨gz, offz, Bz, tz, frz, rfl, hgz, hzv⟩ := (HI.out.kept hb) k hlz
              have hord := HL.out k
              have hob := okO_facts (okOs_at HOK.out hlt)
              have c2 : (O k)[2]? = some (.bool (Bo (O k) 2)) := hord.b
              have c3 := hord.p.1
              have c4 := hord.l.1
              have HE := Lib.hid hexB
              have HZB := Lib.hid hszB
              have hw1 : wo p O (k + 1) = wo p O k + ow p (O k) := rfl
              have hw2 : bu O (k + 1) = bu O k + if Bo (O k) 2 then N (O k) 4 else 0 := rfl
              have hw3 : se O (k + 1) = se O k + if Bo (O k) 2 then 0 else N (O k) 4 := rfl
              have how : ow p (O k) = max 0 (if Bo (O k) 2 then N (O k) 3 - p else p - N (O k) 3) * N (O k) 4 := rfl
              have H1 := Lib.hid hw1
              have H2 := Lib.hid hw2
              have H3 := Lib.hid hw3
              have H4 := Lib.hid how
              have hwk0 := (HBD.out k hk).2
              clear hexB hszB hw1 hw2 hw3 how
              generalize ow p (O k) = ov at *
              generalize wo p O k = wv at *
              generalize bu O k = bv at *
              generalize se O k = sv at *
              generalize Bo (O k) 2 = bo at *
              generalize N (O k) 4 = l at *
              generalize N (O k) 3 = pv at *
              obtain ⟨zz, hzz0⟩ : ∃ zz, zz = IntKind.u64.wrap (Z k) := ⟨_, rfl⟩
              have hzb : 0 ≤ zz ∧ zz ≤ 18446744073709551615 := by rw [hzz0, IntKind.wrap_u64]; omega
              have hl1w : IntKind.u64.wrap (l + 1) = l + 1 := by rw [IntKind.wrap_u64]; omega
              have hll : IntKind.i64.wrap (l + 1) = l + 1 := by rw [IntKind.wrap_i64]; omega
              have hll2 : wrap64 (l + 1) = l + 1 := by unfold wrap64; omega
              generalize Z k = zk at *
              have hzz1 := hzz0.symm
              clear hzz0
              have hln : ((l + 1 : Int) == 0) = false := by simp; omega
              have hln2 : l + 1 ≠ 0 := by omega
              obtain ⟨f, hf⟩ : ∃ f, f = zz.tmod (l + 1) := ⟨_, rfl⟩
              have hf0 : 0 ≤ f := by rw [hf]; exact Int.tmod_nonneg _ hzb.1
              have hf1 : f ≤ l := by have := Int.tmod_lt_of_pos zz (show 0 < l + 1 by omega); omega
              have hfw : IntKind.i64.wrap f = f := by rw [IntKind.wrap_i64]; omega
              have hf' := hf.symm
              clear hf
              have hg2 := heap_up (o := Obj.cells (O k) 41) hg
              have hgR2 := heap_up (o := Obj.cells (O k) 41) hgR
              have hz2 := heap_up (o := Obj.cells (O k) 41) hgz
              have hgn2 := heap_alloc_new wr (Obj.cells (O k) 41)
              have hb2 := below_alloc hb (Obj.cells (O k) 41)
              go_wp2_with (first | ((with_reducible refine at_load 41 ?_); refine wpList_load_part rfl 41 _ rfl (g) ((off + k * 5)) rfl _ (B) _ _ 5 (hgB) Try.underlying41 rfl (by kernel_rfl) (by have := HZB.out; omega) (O k) (HE.out) ?_) | ((with_reducible refine at_alloc 41 ?_); refine wpList_alloc_named rfl 41 rfl (z5) (by kernel_rfl) ?_) | ((with_reducible refine at_store 41 ?_); refine wpList_store_new rfl 41 _ _ rfl (O k) _ _ _ rfl (by simp) rfl (by rw [hord.size]; kernel_rfl) (by rw [hord.size]; rfl) (hord.all) ?_))
              refine at_world ?_
              intro w3 hw3
              rw [← hw3] at hg2 hgR2 hz2 hgn2 hb2
              clear hw3
              refine wp_region_below (by kernel_rfl) (by kernel_rfl) ?_
              repeat (first | ((with_reducible apply q_skip); (case hw => rfl); (try simp only [Act.put, List.setIfInBounds_toArray, List.set_cons_zero, List.set_cons_succ])) | ((with_reducible apply q_val); (case hw => rfl); (case hv => intro wq hbq; have hcq := cellF (Ytnpjclodcgejgaa.kept hbq hz2); have hcr := cellF (Ytnpjclodcgejgaa.kept hbq hgn2); go_simp; try rfl); (try simp only [Act.put, List.setIfInBounds_toArray, List.set_cons_zero, List.set_cons_succ])))
              refine q_nil ?_
              intro w6 hb6
              have hg6 := Ytnpjclodcgejgaa.kept hb6 hg2
              have hgR6 := Ytnpjclodcgejgaa.kept hb6 hgR2
              have hgn6 := Ytnpjclodcgejgaa.kept hb6 hgn2
              have hB6 := below_then hb2 hb6
              obtain ⟨e6, _, _⟩ := cells_of hg6
              obtain ⟨en6, _, _⟩ := cells_of hgn6
              clear hzz1 hf' hl1w hll hll2 hln hln2 hfw hzb hg2 hgR2 hz2 hgn2 hb2 hb6 hgB hgz hg hgR hb cA
              cases bo
              · have fb := fill_bd (d := p - pv) ⟨hf0, hf1⟩ (by omega) (by omega)
                have hov : ov = max 0 (p - pv) * l := H4.out
                rw [← hov] at fb
                have HB2 := Lib.hid (show bu O (k + 1) = bv by rw [H2.out]; simp)
                have HS2 := Lib.hid (show se O (k + 1) = sv + l by rw [H3.out]; simp)
                clear hov
                obtain ⟨pr, hpr⟩ : ∃ pr, pr = f * (p - pv) := ⟨_, rfl⟩
                rw [← hpr] at fb
                have hpw : wrap64 (f * (p - pv)) = pr := by rw [← hpr]; unfold wrap64; omega
                clear hpr
                go_wp2_with fail
                go_roundg (n - (k + 1))
                case measure => omega
                case rel => exact ⟨k + 1, _, _, by omega, rfl, by go_num, rfl, rfl, by rw [HS2.out]; omega, by rw [HB2.out]; omega, by rw [H1.out]; omega, by omega, hg6, hgR6, hB6⟩
              · have fb := fill_bd (d := pv - p) ⟨hf0, hf1⟩ (by omega) (by omega)
                have hov : ov = max 0 (pv - p) * l := H4.out
                rw [← hov] at fb
                have HB2 := Lib.hid (show bu O (k + 1) = bv + l by rw [H2.out]; simp)
                have HS2 := Lib.hid (show se O (k + 1) = sv by rw [H3.out]; simp)
                clear hov
                obtain ⟨pr, hpr⟩ : ∃ pr, pr = f * (pv - p) := ⟨_, rfl⟩
                rw [← hpr] at fb
                have hpw : wrap64 (f * (pv - p)) = pr := by rw [← hpr]; unfold wrap64; omega
                clear hpr
                go_wp2_with fail
                go_roundg (n - (k + 1))
                case measure => omega
                case rel => exact ⟨k + 1, _, _, by omega, rfl, by go_num, rfl, rfl, by rw [HS2.out]; omega, by rw [HB2.out]; omega, by rw [H1.out]; omega, by omega, hg6, hgR6, hB6⟩
            · have cR := (cells_of hgR).1
              have cs := CS.out qv hqb
              have b4 := wk_bd hqb HSW.out 16 (by omega)
              have hwk := wk_mid (A.extract 6 22) (a := q - se O n) (b := q + bu O n) (x := qv) (by omega) (by omega) 16
              have hfin : wk (A.extract 6 22) qv 16 + lv ≤ x3 + kwv := by
                have := HW.out
                omega
              have hkb := HWB
              clear hwk
              generalize wk (A.extract 6 22) qv 16 = x4 at *
              go_wp2_with (first | ((with_reducible refine at_load 26 ?_); refine wpList_load_part rfl 26 _ rfl (W.heap.size) (6) rfl _ (A) _ _ 16 (hg) Try.underlying26 rfl (by kernel_rfl) (by rw [hsz0.out]; omega) (A.extract 6 22) (rfl) ?_) | (go_at_call 18; (with_reducible refine (cs _).mono ?_); rintro e w4 ⟨rfl, hb4⟩; have hgR4 := kept hb4 hgR; have cR4 := (cells_of hgR4).1) | (go_at_call 13; (with_reducible refine (known11 _).mono ?_); rintro e w5 ⟨rfl, hb5⟩))
              go_ret
              exact ⟨rfl, below_then (below_then hb hb4) hb5⟩
          · obtain rfl : n = k := by omega
            have cR := (cells_of hgR).1
            have cs := CS.out qv hqb
            have b4 := wk_bd hqb HSW.out 16 (by omega)
            have hwk := wk_mid (A.extract 6 22) (a := q - se O n) (b := q + bu O n) (x := qv) (by omega) (by omega) 16
            have hfin : wk (A.extract 6 22) qv 16 + lv ≤ x3 + kwv := by
              have := HW.out
              omega
            have hkb := HWB
            clear hwk
            generalize wk (A.extract 6 22) qv 16 = x4 at *
            go_wp2_with (first | ((with_reducible refine at_load 26 ?_); refine wpList_load_part rfl 26 _ rfl (W.heap.size) (6) rfl _ (A) _ _ 16 (hg) Try.underlying26 rfl (by kernel_rfl) (by rw [hsz0.out]; omega) (A.extract 6 22) (rfl) ?_) | (go_at_call 18; (with_reducible refine (cs _).mono ?_); rintro e w4 ⟨rfl, hb4⟩; have hgR4 := kept hb4 hgR; have cR4 := (cells_of hgR4).1) | (go_at_call 13; (with_reducible refine (known11 _).mono ?_); rintro e w5 ⟨rfl, hb5⟩))
            go_ret
            exact ⟨rfl, below_then (below_then hb hb4) hb5⟩
      · have he : nE (fun _ => A) (fun _ => O) (fun _ => n) 1 = 2 := by
          unfold nE
          rw [if_neg (by omega), okKs_s, Bool.eq_false_iff.2 hok]
          rfl
        rw [he] at cm
        have HR3 := Lib.hid (show (need (fun _ => A) (fun _ => O) (fun _ => n) 1).size = 3 from rfl)
        have HRa := Lib.hid (show (need (fun _ => A) (fun _ => O) (fun _ => n) 1).all (·.oneCell') = true from r3_all _ _ _)
        generalize need (fun _ => A) (fun _ => O) (fun _ => n) 1 = R at *
        have d1 : decide ((100 : Int) < (n : Int)) = false := decide_eq_false (by omega)
        have d2 : decide ((100 : Int) < (nz : Int)) = false := decide_eq_false (by omega)
        have HA := Lib.hid hA
        clear hA he hok
        go_enter Try.func6, Try.ntmps6
        go_wp2_with (first | ((with_reducible refine at_load 33 ?_); refine wpList_load_part rfl 33 _ rfl (W.heap.size) (0) rfl _ (A) _ _ 29 (heap_alloc_new _ _) Try.underlying33 rfl (by kernel_rfl) (by rw [hsz0.out]; omega) (A) (hE0.out) ?_) | ((with_reducible refine at_slice1 22 ?_); refine wpList_slice_stk rfl _ rfl A rfl hsz0.out ?_) | (go_at_call 14; (with_reducible refine (cm).mono ?_); rintro e w1 ⟨rfl, hb1⟩) | ((with_reducible refine at_alloc 35 ?_); refine wpList_alloc_named rfl 35 rfl (r3 0 0 0) (by kernel_rfl) ?_) | ((with_reducible refine at_store 35 ?_); refine wpList_store_new rfl 35 _ _ rfl (R) _ _ _ rfl (by simp) rfl (by rw [HR3.out]; kernel_rfl) (by rw [HR3.out]; rfl) (HRa.out) ?_) | (go_at_call 13; (with_reducible refine (known11 _).mono ?_); rintro e w5 ⟨rfl, hb5⟩))
        go_ret
        exact ⟨rfl, below_then (below_alloc (below_then (below_alloc (below_new W (Obj.cells A 33)) (Obj.cells A 33)) hb1) _) hb5⟩
end Go.Proofs.Ytnpjclodcgejgaa
