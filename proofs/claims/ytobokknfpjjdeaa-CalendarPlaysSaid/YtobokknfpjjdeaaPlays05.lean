/- CalendarPlays, walked: it returns true. Condition: the numbers fit their kinds. -/
import Derived.Test.YtobokknfpjjdeaaTri05
namespace Go.Proofs.Ytobokknfpjjdeaa
set_option linter.unusedVariables false
set_option linter.unusedSimpArgs false
open Go.RowKit

set_option maxRecDepth 100000 in
set_option maxHeartbeats 4000000 in
theorem plays05_walk (a : Option Addr) (n c : Nat) (L : Nat → Array Value) (w : World) (hL : ∀ i, IsOp5 (L i)) (hl : RowsC w 29 a n L) (_ : n ≤ c) (_ : c ≤ 9223372036854775807) (hz : a = none → n = 0 ∧ c = 0) :
    Calls Try.prog 9 #[.slice a n c] w fun e w' => e = .returned (.bool true) ∧ Below w.heap.size w w' := by
  have hne : ∀ (w : World) (g : Nat), (binOp .eql 56 (.pointer (some ⟨g, 0, none⟩)) (.pointer none)).run Try.prog w = .ok (.bool false) w := fun _ _ => by kernel_rfl
  have hnn : ∀ (w : World) (g : Nat), (binOp .neq 56 (.pointer (some ⟨g, 0, none⟩)) (.pointer none)).run Try.prog w = .ok (.bool true) w := fun _ _ => by kernel_rfl
  have HL := Lib.hid hL
  have HR := Lib.hid hl
  clear hL hl hz
  by_cases hbig : 300 < n
  · have hbi : (300 : Int) < n := by omega
    go_enter Try.func9, Try.ntmps9
    go_wp2_with (first | (go_at_call 23; (with_reducible refine (cnew_any _).mono ?_); rintro e w1 ⟨rfl, hN, hb1⟩) | ((with_reducible refine at_build 89 ?_); refine wpList_build_named rfl 89 _ rfl (#[.int .u32 0, .slice none 0 0]) (by kernel_rfl) ?_) | (go_at_call 24; (with_reducible refine (known05 _).mono ?_); rintro e w2 ⟨rfl, hb2⟩))
    go_ret
    exact ⟨rfl, below_then (below_alloc hb1 _) hb2⟩
  have hbi : ¬ (300 : Int) < n := by omega
  go_enter Try.func9, Try.ntmps9
  go_wp2_with (first | (go_at_call 23; (with_reducible refine (cnew_any _).mono ?_); rintro e w1 ⟨rfl, hN, hb1⟩) | ((with_reducible refine at_build 89 ?_); refine wpList_build_named rfl 89 _ rfl (#[.int .u32 0, .slice none 0 0]) (by kernel_rfl) ?_))
  have HP0 := Lib.hid (show Pair w (w1.alloc (.cells #[.int .u32 0, .slice none 0 0] 89)) w.heap.size w1.heap.size 0 0 (fun _ => conA (kp 1 (-1)) 10) (.slice none 0 0) from
    ⟨hN.kept (below_new _ _), ⟨heap_alloc_new _ _, World.ownsRow_nil _ _ _ _, hb1.size, hN.con, fun i j _ h => by omega, by omega, by omega⟩, below_alloc hb1 _, fun vc e _ b _ h => by cases h⟩)
  clear hN hb1 hne
  go_loopg [3, 30] n (fun gh v3 v30 wr => ∃ (i g k : Nat) (day : Int) (K : Nat → Array Value) (v : Value), i ≤ n ∧ gh = n - i ∧ v30 = .int .i64 i ∧ v3 = .pointer (some ⟨g, 0, none⟩) ∧ Pair w wr g w1.heap.size k day K v)
  case atStart => exact ⟨0, _, _, _, _, _, by omega, by omega, rfl, rfl, HP0.out⟩
  case round =>
    obtain ⟨i, g, k, day, K, v, hi, rfl, rfl, rfl, hp⟩ := hrel
    have HP := Lib.hid hp
    clear hp HP0
    generalize w1.heap.size = gw at *
    by_cases hlt : i < n
    · have hik : (i : Int) < n := by omega
      obtain ⟨ga, off, A, t, fr, rfl, hgA, hsA, hxA⟩ := (HR.out.kept HP.out.be) i hlt
      have hop := HL.out i
      have hbn := below_new wr (Obj.cells (L i) 85)
      have HO := Lib.hid (show Opb wr.heap.size (L i) (wr.alloc (Obj.cells (L i) 85)) from heap_alloc_new _ _)
      have HP1 := Lib.hid (HP.out.kept hbn)
      have HSZ := Lib.hid hop.size
      have HAL := Lib.hid hop.all
      have HXE := Lib.hid (extract_all hop.size)
      have m0 := hop.k.1
      have m26 := hop.n.1
      have m27 : (L i)[27]? = some (.bool (Bo (L i) 27)) := hop.on
      have m28 := hop.pr.1
      have hf : F64 (N (L i) 28) := hop.pr.2
      have HSP := Lib.hid hop.sp
      have hco := cellF HO.out
      clear hop hbn HP
      generalize hB : L i = B at *
      clear hB
      generalize N B 0 = kd at *
      generalize N B 26 = nn at *
      generalize Bo B 27 = on at *
      generalize N B 28 = p at *
      generalize hw2 : wr.alloc (Obj.cells B 85) = w2 at *
      go_upto_region 9 with (first | ((with_reducible refine at_load 85 ?_); refine wpList_load_part rfl 85 _ rfl (ga) (off + i * 29) rfl _ (A) _ _ 29 (hgA) Try.underlying85 rfl (by kernel_rfl) (hsA) (B) (hxA) ?_) | ((with_reducible refine at_alloc 85 ?_); refine wpList_alloc_named rfl 85 rfl (zop0) (by kernel_rfl) ?_) | ((with_reducible refine at_store 85 ?_); refine wpList_store_new rfl 85 _ _ rfl (B) _ _ _ rfl (by simp) rfl (by rw [HSZ.out]; kernel_rfl) (by rw [HSZ.out]; rfl) (HAL.out) ?_))
      clear hw2 hgA hsA hxA
      generalize wr.heap.size = bo at *
      by_cases k1 : kd = 1
      · subst k1
        obtain ⟨r, k', day', K', CP, CR⟩ := both_next k day K
        have CP := Lib.hid CP
        have CR := Lib.hid CR
        go_wp2_with (first
          | (go_at_call 30; (with_reducible refine (CP.out _ _ _ HP1.out.c).mono ?_); rintro e w3 ⟨rfl, hck⟩; obtain ⟨hM, hO3⟩ := HP1.out.go HO.out hck; have HM := Lib.hid hM; have HO3 := Lib.hid hO3; clear hM hO3 hck) | (go_at_call 37; (with_reducible refine (CR.out _ _ _ _ HM.out.d).mono ?_); rintro e w4 ⟨rfl, hrk⟩; obtain ⟨v', hPN, hO4⟩ := HM.out.go HO3.out hrk; have HPN := Lib.hid hPN; clear hPN hrk hO4) | (go_at_call 33; (with_reducible refine (HPN.out.same).mono ?_); rintro e w9 ⟨rfl, hb9⟩))
        have HPZ := Lib.hid (HPN.out.kept hb9)
        clear HPN hb9
        go_roundg (n - (i + 1))
        case measure => omega
        case rel => exact ⟨i + 1, _, _, _, _, _, by omega, rfl, by go_num, rfl, HPZ.out⟩
      by_cases k2 : kd = 2
      · subst k2
        obtain ⟨r, k', day', K', CP, CR⟩ := both_list k day K (B.extract 1 26) HSP.out HP1.out.c.srt
        have CP := Lib.hid CP
        have CR := Lib.hid CR
        go_upto_region 16 with fail
        refine wp_region_R (S := fun wt => Opb bo B wt) (by kernel_rfl) HO.out ?_
        obtain ⟨wq, hwq⟩ : ∃ wq, wq = w2.drew := ⟨_, rfl⟩
        have HBQ : Below w2.heap.size w2 wq := by rw [hwq]; exact Below.drew (Below.refl _ _)
        rw [← hwq]
        have HPQ := Lib.hid (HP1.out.kept HBQ)
        clear hwq HBQ HP1 HO
        have HST : ∀ wt wt' : World, Opb bo B wt → Below wt.heap.size wt wt' → Opb bo B wt' := fun _ _ h hb => h.kept hb
        (refine wpAnyR_take (i := 0) (v := ?_) rfl (by kernel_rfl) (by kernel_rfl) (by kernel_rfl) (fun _ _ _ h => h) (give_val (by rfl) ?rt_0) ?_); (case rt_0 => (intro wt hS; go_simp; try with_reducible rfl)); (try simp only [Act.put, List.getElem_toArray, List.getElem_cons_zero, List.getElem_cons_succ, List.setIfInBounds_toArray, List.set_cons_zero, List.set_cons_succ]); (refine wpAnyR_take (i := 1) (v := ?_) rfl (by kernel_rfl) (by kernel_rfl) (by kernel_rfl) (fun _ _ _ h => h) (give_val (by rfl) ?rt_1) ?_); (case rt_1 => (intro wt hS; go_simp; try with_reducible rfl)); (try simp only [Act.put, List.getElem_toArray, List.getElem_cons_zero, List.getElem_cons_succ, List.setIfInBounds_toArray, List.set_cons_zero, List.set_cons_succ])
        (refine wpAnyR_take (i := 2) (v := .agg (B.extract 1 26)) rfl (by kernel_rfl) (by kernel_rfl) (by kernel_rfl) (fun _ _ _ h => h) (give_val (by rfl) ?rt_2) ?_); (case rt_2 => (intro wt hS; exact exec_load_part 61 _ rfl bo 1 (by rfl) _ B _ _ 25 hS Try.underlying61 rfl (by kernel_rfl) (by rw [HSZ.out]; omega) _ rfl)); (try simp only [Act.put, List.getElem_toArray, List.getElem_cons_zero, List.getElem_cons_succ, List.setIfInBounds_toArray, List.set_cons_zero, List.set_cons_succ])
        (refine wpAnyR_take (i := 4) (v := ?_) rfl (by kernel_rfl) (by kernel_rfl) (by kernel_rfl) (fun _ _ _ h => h) (give_val (by rfl) ?rt_4) ?_); (case rt_4 => (intro wt hS; go_simp; try with_reducible rfl)); (try simp only [Act.put, List.getElem_toArray, List.getElem_cons_zero, List.getElem_cons_succ, List.setIfInBounds_toArray, List.set_cons_zero, List.set_cons_succ]); (refine wpAnyR_take (i := 5) (v := ?_) rfl (by kernel_rfl) (by kernel_rfl) (by kernel_rfl) (fun _ _ _ h => h) (give_val (by rfl) ?rt_5) ?_); (case rt_5 => (intro wt hS; go_simp; try with_reducible rfl)); (try simp only [Act.put, List.getElem_toArray, List.getElem_cons_zero, List.getElem_cons_succ, List.setIfInBounds_toArray, List.set_cons_zero, List.set_cons_succ])
        (refine wpAnyR_take (i := 6) (v := .agg (B.extract 1 26)) rfl (by kernel_rfl) (by kernel_rfl) (by kernel_rfl) (fun _ _ _ h => h) (give_val (by rfl) ?rt_6) ?_); (case rt_6 => (intro wt hS; exact exec_load_part 61 _ rfl bo 1 (by rfl) _ B _ _ 25 hS Try.underlying61 rfl (by kernel_rfl) (by rw [HSZ.out]; omega) _ rfl)); (try simp only [Act.put, List.getElem_toArray, List.getElem_cons_zero, List.getElem_cons_succ, List.setIfInBounds_toArray, List.set_cons_zero, List.set_cons_succ])
        (refine wpAnyR_ready (rs := [3]) (by kernel_rfl) (by decide) (fun wd hbd HS => ?_)); refine (AllR.cons rfl (fun K' hK => ?_) AllR.nil)
        rw [if_pos (by rfl)]
        have HPD := Lib.hid (HPQ.out.kept hbd)
        have HSD := Lib.hid HS
        unfold Oper.wp
        go_simp
        refine (CP.out _ _ _ HPD.out.c).mono ?_
        rintro e w3 ⟨rfl, hck⟩
        obtain ⟨hM, hO3⟩ := HPD.out.go HSD.out hck
        have HM := Lib.hid hM
        refine hK.out _ _ hO3 ?_
        clear hK K' hM hO3 hck HSD HPD HPQ
        (try simp only [Act.put, List.getElem_toArray, List.getElem_cons_zero, List.getElem_cons_succ, List.setIfInBounds_toArray, List.set_cons_zero, List.set_cons_succ])
        (refine wpAnyR_ready (rs := [7]) (by kernel_rfl) (by decide) (fun wf hbf HS2 => ?_)); refine (AllR.cons rfl (fun K' hK => ?_) AllR.nil)
        rw [if_pos (by rfl)]
        have HMD := Lib.hid (HM.out.kept hbf)
        have HSF := Lib.hid HS2
        unfold Oper.wp
        go_simp
        refine (CR.out _ _ _ _ HMD.out.d).mono ?_
        rintro e w4 ⟨rfl, hrk⟩
        obtain ⟨v', hP5, hO4⟩ := HMD.out.go HSF.out hrk
        have HP5 := Lib.hid hP5
        refine hK.out _ _ hO4 ?_
        clear hK K' hP5 hO4 hrk HSF HMD HM
        (try simp only [Act.put, List.getElem_toArray, List.getElem_cons_zero, List.getElem_cons_succ, List.setIfInBounds_toArray, List.set_cons_zero, List.set_cons_succ])
        (refine wpAnyR_take (i := 8) (v := ?_) rfl (by kernel_rfl) (by kernel_rfl) (by kernel_rfl) (fun _ _ _ h => h) (give_val (by rfl) ?rt_8) ?_); (case rt_8 => (intro wt hS; go_simp; try with_reducible rfl)); (try simp only [Act.put, List.getElem_toArray, List.getElem_cons_zero, List.getElem_cons_succ, List.setIfInBounds_toArray, List.set_cons_zero, List.set_cons_succ]); (refine wpAnyR_take (i := 9) (v := ?_) rfl (by kernel_rfl) (by kernel_rfl) (by kernel_rfl) (fun _ _ _ h => h) (give_val (by rfl) ?rt_9) ?_); (case rt_9 => (intro wt hS; go_simp; try with_reducible rfl)); (try simp only [Act.put, List.getElem_toArray, List.getElem_cons_zero, List.getElem_cons_succ, List.setIfInBounds_toArray, List.set_cons_zero, List.set_cons_succ])
        refine wpAnyR_done (by kernel_rfl) (fun wz hbz HS => ?_) _
        have HPN := Lib.hid (HP5.out.kept hbz)
        clear HP5 hbz
        go_wp2_with ((go_at_call 33; (with_reducible refine (HPN.out.same).mono ?_); rintro e w9 ⟨rfl, hb9⟩))
        have HPZ := Lib.hid (HPN.out.kept hb9)
        clear HPN hb9
        go_roundg (n - (i + 1))
        case measure => omega
        case rel => exact ⟨i + 1, _, _, _, _, _, by omega, rfl, by go_num, rfl, HPZ.out⟩
      by_cases k3 : kd = 3
      · subst k3
        obtain ⟨r, k', day', K', CP, CR⟩ := both_halt k day K nn on
        have CP := Lib.hid CP
        have CR := Lib.hid CR
        go_upto_region 18 with fail
        refine wp_region_R (S := fun wt => Opb bo B wt) (by kernel_rfl) HO.out ?_
        obtain ⟨wq, hwq⟩ : ∃ wq, wq = w2.drew := ⟨_, rfl⟩
        have HBQ : Below w2.heap.size w2 wq := by rw [hwq]; exact Below.drew (Below.refl _ _)
        rw [← hwq]
        have HPQ := Lib.hid (HP1.out.kept HBQ)
        clear hwq HBQ HP1 HO
        have HST : ∀ wt wt' : World, Opb bo B wt → Below wt.heap.size wt wt' → Opb bo B wt' := fun _ _ h hb => h.kept hb
        (refine wpAnyR_take (i := 0) (v := ?_) rfl (by kernel_rfl) (by kernel_rfl) (by kernel_rfl) (fun _ _ _ h => h) (give_val (by rfl) ?rt_0) ?_); (case rt_0 => (intro wt hS; go_simp; try with_reducible rfl)); (try simp only [Act.put, List.getElem_toArray, List.getElem_cons_zero, List.getElem_cons_succ, List.setIfInBounds_toArray, List.set_cons_zero, List.set_cons_succ]); (refine wpAnyR_take (i := 1) (v := ?_) rfl (by kernel_rfl) (by kernel_rfl) (by kernel_rfl) (fun _ _ _ h => h) (give_val (by rfl) ?rt_1) ?_); (case rt_1 => (intro wt hS; go_simp; try with_reducible rfl)); (try simp only [Act.put, List.getElem_toArray, List.getElem_cons_zero, List.getElem_cons_succ, List.setIfInBounds_toArray, List.set_cons_zero, List.set_cons_succ])
        (refine wpAnyR_take (i := 2) (v := .int .u32 nn) rfl (by kernel_rfl) (by kernel_rfl) (by kernel_rfl) (fun _ _ _ h => h) (give_val (by rfl) ?rt_2) ?_); (case rt_2 => (intro wt hS; (have hcq := cellF hS); go_simp; try with_reducible rfl)); (try simp only [Act.put, List.getElem_toArray, List.getElem_cons_zero, List.getElem_cons_succ, List.setIfInBounds_toArray, List.set_cons_zero, List.set_cons_succ])
        (refine wpAnyR_take (i := 3) (v := ?_) rfl (by kernel_rfl) (by kernel_rfl) (by kernel_rfl) (fun _ _ _ h => h) (give_val (by rfl) ?rt_3) ?_); (case rt_3 => (intro wt hS; go_simp; try with_reducible rfl)); (try simp only [Act.put, List.getElem_toArray, List.getElem_cons_zero, List.getElem_cons_succ, List.setIfInBounds_toArray, List.set_cons_zero, List.set_cons_succ])
        (refine wpAnyR_take (i := 4) (v := .bool on) rfl (by kernel_rfl) (by kernel_rfl) (by kernel_rfl) (fun _ _ _ h => h) (give_val (by rfl) ?rt_4) ?_); (case rt_4 => (intro wt hS; (have hcq := cellF hS); go_simp; try with_reducible rfl)); (try simp only [Act.put, List.getElem_toArray, List.getElem_cons_zero, List.getElem_cons_succ, List.setIfInBounds_toArray, List.set_cons_zero, List.set_cons_succ])
        (refine wpAnyR_take (i := 6) (v := ?_) rfl (by kernel_rfl) (by kernel_rfl) (by kernel_rfl) (fun _ _ _ h => h) (give_val (by rfl) ?rt_6) ?_); (case rt_6 => (intro wt hS; go_simp; try with_reducible rfl)); (try simp only [Act.put, List.getElem_toArray, List.getElem_cons_zero, List.getElem_cons_succ, List.setIfInBounds_toArray, List.set_cons_zero, List.set_cons_succ]); (refine wpAnyR_take (i := 7) (v := ?_) rfl (by kernel_rfl) (by kernel_rfl) (by kernel_rfl) (fun _ _ _ h => h) (give_val (by rfl) ?rt_7) ?_); (case rt_7 => (intro wt hS; go_simp; try with_reducible rfl)); (try simp only [Act.put, List.getElem_toArray, List.getElem_cons_zero, List.getElem_cons_succ, List.setIfInBounds_toArray, List.set_cons_zero, List.set_cons_succ])
        (refine wpAnyR_take (i := 8) (v := .int .u32 nn) rfl (by kernel_rfl) (by kernel_rfl) (by kernel_rfl) (fun _ _ _ h => h) (give_val (by rfl) ?rt_8) ?_); (case rt_8 => (intro wt hS; (have hcq := cellF hS); go_simp; try with_reducible rfl)); (try simp only [Act.put, List.getElem_toArray, List.getElem_cons_zero, List.getElem_cons_succ, List.setIfInBounds_toArray, List.set_cons_zero, List.set_cons_succ])
        (refine wpAnyR_take (i := 9) (v := ?_) rfl (by kernel_rfl) (by kernel_rfl) (by kernel_rfl) (fun _ _ _ h => h) (give_val (by rfl) ?rt_9) ?_); (case rt_9 => (intro wt hS; go_simp; try with_reducible rfl)); (try simp only [Act.put, List.getElem_toArray, List.getElem_cons_zero, List.getElem_cons_succ, List.setIfInBounds_toArray, List.set_cons_zero, List.set_cons_succ])
        (refine wpAnyR_take (i := 10) (v := .bool on) rfl (by kernel_rfl) (by kernel_rfl) (by kernel_rfl) (fun _ _ _ h => h) (give_val (by rfl) ?rt_10) ?_); (case rt_10 => (intro wt hS; (have hcq := cellF hS); go_simp; try with_reducible rfl)); (try simp only [Act.put, List.getElem_toArray, List.getElem_cons_zero, List.getElem_cons_succ, List.setIfInBounds_toArray, List.set_cons_zero, List.set_cons_succ])
        (refine wpAnyR_ready (rs := [5]) (by kernel_rfl) (by decide) (fun wd hbd HS => ?_)); refine (AllR.cons rfl (fun K' hK => ?_) AllR.nil)
        rw [if_pos (by rfl)]
        have HPD := Lib.hid (HPQ.out.kept hbd)
        have HSD := Lib.hid HS
        unfold Oper.wp
        go_simp
        refine (CP.out _ _ _ HPD.out.c).mono ?_
        rintro e w3 ⟨rfl, hck⟩
        obtain ⟨hM, hO3⟩ := HPD.out.go HSD.out hck
        have HM := Lib.hid hM
        refine hK.out _ _ hO3 ?_
        clear hK K' hM hO3 hck HSD HPD HPQ
        (try simp only [Act.put, List.getElem_toArray, List.getElem_cons_zero, List.getElem_cons_succ, List.setIfInBounds_toArray, List.set_cons_zero, List.set_cons_succ])
        (refine wpAnyR_ready (rs := [11]) (by kernel_rfl) (by decide) (fun wf hbf HS2 => ?_)); refine (AllR.cons rfl (fun K' hK => ?_) AllR.nil)
        rw [if_pos (by rfl)]
        have HMD := Lib.hid (HM.out.kept hbf)
        have HSF := Lib.hid HS2
        unfold Oper.wp
        go_simp
        refine (CR.out _ _ _ _ HMD.out.d).mono ?_
        rintro e w4 ⟨rfl, hrk⟩
        obtain ⟨v', hP5, hO4⟩ := HMD.out.go HSF.out hrk
        have HP5 := Lib.hid hP5
        refine hK.out _ _ hO4 ?_
        clear hK K' hP5 hO4 hrk HSF HMD HM
        (try simp only [Act.put, List.getElem_toArray, List.getElem_cons_zero, List.getElem_cons_succ, List.setIfInBounds_toArray, List.set_cons_zero, List.set_cons_succ])
        (refine wpAnyR_take (i := 12) (v := ?_) rfl (by kernel_rfl) (by kernel_rfl) (by kernel_rfl) (fun _ _ _ h => h) (give_val (by rfl) ?rt_12) ?_); (case rt_12 => (intro wt hS; go_simp; try with_reducible rfl)); (try simp only [Act.put, List.getElem_toArray, List.getElem_cons_zero, List.getElem_cons_succ, List.setIfInBounds_toArray, List.set_cons_zero, List.set_cons_succ]); (refine wpAnyR_take (i := 13) (v := ?_) rfl (by kernel_rfl) (by kernel_rfl) (by kernel_rfl) (fun _ _ _ h => h) (give_val (by rfl) ?rt_13) ?_); (case rt_13 => (intro wt hS; go_simp; try with_reducible rfl)); (try simp only [Act.put, List.getElem_toArray, List.getElem_cons_zero, List.getElem_cons_succ, List.setIfInBounds_toArray, List.set_cons_zero, List.set_cons_succ])
        refine wpAnyR_done (by kernel_rfl) (fun wz hbz HS => ?_) _
        have HPN := Lib.hid (HP5.out.kept hbz)
        clear HP5 hbz
        go_wp2_with ((go_at_call 33; (with_reducible refine (HPN.out.same).mono ?_); rintro e w9 ⟨rfl, hb9⟩))
        have HPZ := Lib.hid (HPN.out.kept hb9)
        clear HPN hb9
        go_roundg (n - (i + 1))
        case measure => omega
        case rel => exact ⟨i + 1, _, _, _, _, _, by omega, rfl, by go_num, rfl, HPZ.out⟩
      by_cases k4 : kd = 4
      · subst k4
        obtain ⟨r, k', day', K', CP, CR⟩ := both_pub k day K nn p hf
        have CP := Lib.hid CP
        have CR := Lib.hid CR
        go_upto_region 20 with fail
        refine wp_region_R (S := fun wt => Opb bo B wt) (by kernel_rfl) HO.out ?_
        obtain ⟨wq, hwq⟩ : ∃ wq, wq = w2.drew := ⟨_, rfl⟩
        have HBQ : Below w2.heap.size w2 wq := by rw [hwq]; exact Below.drew (Below.refl _ _)
        rw [← hwq]
        have HPQ := Lib.hid (HP1.out.kept HBQ)
        clear hwq HBQ HP1 HO
        have HST : ∀ wt wt' : World, Opb bo B wt → Below wt.heap.size wt wt' → Opb bo B wt' := fun _ _ h hb => h.kept hb
        (refine wpAnyR_take (i := 0) (v := ?_) rfl (by kernel_rfl) (by kernel_rfl) (by kernel_rfl) (fun _ _ _ h => h) (give_val (by rfl) ?rt_0) ?_); (case rt_0 => (intro wt hS; go_simp; try with_reducible rfl)); (try simp only [Act.put, List.getElem_toArray, List.getElem_cons_zero, List.getElem_cons_succ, List.setIfInBounds_toArray, List.set_cons_zero, List.set_cons_succ]); (refine wpAnyR_take (i := 1) (v := ?_) rfl (by kernel_rfl) (by kernel_rfl) (by kernel_rfl) (fun _ _ _ h => h) (give_val (by rfl) ?rt_1) ?_); (case rt_1 => (intro wt hS; go_simp; try with_reducible rfl)); (try simp only [Act.put, List.getElem_toArray, List.getElem_cons_zero, List.getElem_cons_succ, List.setIfInBounds_toArray, List.set_cons_zero, List.set_cons_succ])
        (refine wpAnyR_take (i := 2) (v := .int .u32 nn) rfl (by kernel_rfl) (by kernel_rfl) (by kernel_rfl) (fun _ _ _ h => h) (give_val (by rfl) ?rt_2) ?_); (case rt_2 => (intro wt hS; (have hcq := cellF hS); go_simp; try with_reducible rfl)); (try simp only [Act.put, List.getElem_toArray, List.getElem_cons_zero, List.getElem_cons_succ, List.setIfInBounds_toArray, List.set_cons_zero, List.set_cons_succ])
        (refine wpAnyR_take (i := 3) (v := ?_) rfl (by kernel_rfl) (by kernel_rfl) (by kernel_rfl) (fun _ _ _ h => h) (give_val (by rfl) ?rt_3) ?_); (case rt_3 => (intro wt hS; go_simp; try with_reducible rfl)); (try simp only [Act.put, List.getElem_toArray, List.getElem_cons_zero, List.getElem_cons_succ, List.setIfInBounds_toArray, List.set_cons_zero, List.set_cons_succ])
        (refine wpAnyR_take (i := 4) (v := .int .i64 p) rfl (by kernel_rfl) (by kernel_rfl) (by kernel_rfl) (fun _ _ _ h => h) (give_val (by rfl) ?rt_4) ?_); (case rt_4 => (intro wt hS; (have hcq := cellF hS); go_simp; try with_reducible rfl)); (try simp only [Act.put, List.getElem_toArray, List.getElem_cons_zero, List.getElem_cons_succ, List.setIfInBounds_toArray, List.set_cons_zero, List.set_cons_succ])
        (refine wpAnyR_take (i := 6) (v := ?_) rfl (by kernel_rfl) (by kernel_rfl) (by kernel_rfl) (fun _ _ _ h => h) (give_val (by rfl) ?rt_6) ?_); (case rt_6 => (intro wt hS; go_simp; try with_reducible rfl)); (try simp only [Act.put, List.getElem_toArray, List.getElem_cons_zero, List.getElem_cons_succ, List.setIfInBounds_toArray, List.set_cons_zero, List.set_cons_succ]); (refine wpAnyR_take (i := 7) (v := ?_) rfl (by kernel_rfl) (by kernel_rfl) (by kernel_rfl) (fun _ _ _ h => h) (give_val (by rfl) ?rt_7) ?_); (case rt_7 => (intro wt hS; go_simp; try with_reducible rfl)); (try simp only [Act.put, List.getElem_toArray, List.getElem_cons_zero, List.getElem_cons_succ, List.setIfInBounds_toArray, List.set_cons_zero, List.set_cons_succ])
        (refine wpAnyR_take (i := 8) (v := .int .u32 nn) rfl (by kernel_rfl) (by kernel_rfl) (by kernel_rfl) (fun _ _ _ h => h) (give_val (by rfl) ?rt_8) ?_); (case rt_8 => (intro wt hS; (have hcq := cellF hS); go_simp; try with_reducible rfl)); (try simp only [Act.put, List.getElem_toArray, List.getElem_cons_zero, List.getElem_cons_succ, List.setIfInBounds_toArray, List.set_cons_zero, List.set_cons_succ])
        (refine wpAnyR_take (i := 9) (v := ?_) rfl (by kernel_rfl) (by kernel_rfl) (by kernel_rfl) (fun _ _ _ h => h) (give_val (by rfl) ?rt_9) ?_); (case rt_9 => (intro wt hS; go_simp; try with_reducible rfl)); (try simp only [Act.put, List.getElem_toArray, List.getElem_cons_zero, List.getElem_cons_succ, List.setIfInBounds_toArray, List.set_cons_zero, List.set_cons_succ])
        (refine wpAnyR_take (i := 10) (v := .int .i64 p) rfl (by kernel_rfl) (by kernel_rfl) (by kernel_rfl) (fun _ _ _ h => h) (give_val (by rfl) ?rt_10) ?_); (case rt_10 => (intro wt hS; (have hcq := cellF hS); go_simp; try with_reducible rfl)); (try simp only [Act.put, List.getElem_toArray, List.getElem_cons_zero, List.getElem_cons_succ, List.setIfInBounds_toArray, List.set_cons_zero, List.set_cons_succ])
        (refine wpAnyR_ready (rs := [5]) (by kernel_rfl) (by decide) (fun wd hbd HS => ?_)); refine (AllR.cons rfl (fun K' hK => ?_) AllR.nil)
        rw [if_pos (by rfl)]
        have HPD := Lib.hid (HPQ.out.kept hbd)
        have HSD := Lib.hid HS
        unfold Oper.wp
        go_simp
        refine (CP.out _ _ _ HPD.out.c).mono ?_
        rintro e w3 ⟨rfl, hck⟩
        obtain ⟨hM, hO3⟩ := HPD.out.go HSD.out hck
        have HM := Lib.hid hM
        refine hK.out _ _ hO3 ?_
        clear hK K' hM hO3 hck HSD HPD HPQ
        (try simp only [Act.put, List.getElem_toArray, List.getElem_cons_zero, List.getElem_cons_succ, List.setIfInBounds_toArray, List.set_cons_zero, List.set_cons_succ])
        (refine wpAnyR_ready (rs := [11]) (by kernel_rfl) (by decide) (fun wf hbf HS2 => ?_)); refine (AllR.cons rfl (fun K' hK => ?_) AllR.nil)
        rw [if_pos (by rfl)]
        have HMD := Lib.hid (HM.out.kept hbf)
        have HSF := Lib.hid HS2
        unfold Oper.wp
        go_simp
        refine (CR.out _ _ _ _ HMD.out.d).mono ?_
        rintro e w4 ⟨rfl, hrk⟩
        obtain ⟨v', hP5, hO4⟩ := HMD.out.go HSF.out hrk
        have HP5 := Lib.hid hP5
        refine hK.out _ _ hO4 ?_
        clear hK K' hP5 hO4 hrk HSF HMD HM
        (try simp only [Act.put, List.getElem_toArray, List.getElem_cons_zero, List.getElem_cons_succ, List.setIfInBounds_toArray, List.set_cons_zero, List.set_cons_succ])
        (refine wpAnyR_take (i := 12) (v := ?_) rfl (by kernel_rfl) (by kernel_rfl) (by kernel_rfl) (fun _ _ _ h => h) (give_val (by rfl) ?rt_12) ?_); (case rt_12 => (intro wt hS; go_simp; try with_reducible rfl)); (try simp only [Act.put, List.getElem_toArray, List.getElem_cons_zero, List.getElem_cons_succ, List.setIfInBounds_toArray, List.set_cons_zero, List.set_cons_succ]); (refine wpAnyR_take (i := 13) (v := ?_) rfl (by kernel_rfl) (by kernel_rfl) (by kernel_rfl) (fun _ _ _ h => h) (give_val (by rfl) ?rt_13) ?_); (case rt_13 => (intro wt hS; go_simp; try with_reducible rfl)); (try simp only [Act.put, List.getElem_toArray, List.getElem_cons_zero, List.getElem_cons_succ, List.setIfInBounds_toArray, List.set_cons_zero, List.set_cons_succ])
        refine wpAnyR_done (by kernel_rfl) (fun wz hbz HS => ?_) _
        have HPN := Lib.hid (HP5.out.kept hbz)
        clear HP5 hbz
        go_wp2_with ((go_at_call 33; (with_reducible refine (HPN.out.same).mono ?_); rintro e w9 ⟨rfl, hb9⟩))
        have HPZ := Lib.hid (HPN.out.kept hb9)
        clear HPN hb9
        go_roundg (n - (i + 1))
        case measure => omega
        case rel => exact ⟨i + 1, _, _, _, _, _, by omega, rfl, by go_num, rfl, HPZ.out⟩
      by_cases k5 : kd = 5
      · subst k5
        obtain ⟨r, k', day', K', CP, CR⟩ := both_due k day K nn
        have CP := Lib.hid CP
        have CR := Lib.hid CR
        go_upto_region 22 with fail
        refine wp_region_R (S := fun wt => Opb bo B wt) (by kernel_rfl) HO.out ?_
        obtain ⟨wq, hwq⟩ : ∃ wq, wq = w2.drew := ⟨_, rfl⟩
        have HBQ : Below w2.heap.size w2 wq := by rw [hwq]; exact Below.drew (Below.refl _ _)
        rw [← hwq]
        have HPQ := Lib.hid (HP1.out.kept HBQ)
        clear hwq HBQ HP1 HO
        have HST : ∀ wt wt' : World, Opb bo B wt → Below wt.heap.size wt wt' → Opb bo B wt' := fun _ _ h hb => h.kept hb
        (refine wpAnyR_take (i := 0) (v := ?_) rfl (by kernel_rfl) (by kernel_rfl) (by kernel_rfl) (fun _ _ _ h => h) (give_val (by rfl) ?rt_0) ?_); (case rt_0 => (intro wt hS; go_simp; try with_reducible rfl)); (try simp only [Act.put, List.getElem_toArray, List.getElem_cons_zero, List.getElem_cons_succ, List.setIfInBounds_toArray, List.set_cons_zero, List.set_cons_succ]); (refine wpAnyR_take (i := 1) (v := ?_) rfl (by kernel_rfl) (by kernel_rfl) (by kernel_rfl) (fun _ _ _ h => h) (give_val (by rfl) ?rt_1) ?_); (case rt_1 => (intro wt hS; go_simp; try with_reducible rfl)); (try simp only [Act.put, List.getElem_toArray, List.getElem_cons_zero, List.getElem_cons_succ, List.setIfInBounds_toArray, List.set_cons_zero, List.set_cons_succ])
        (refine wpAnyR_take (i := 2) (v := .int .u32 nn) rfl (by kernel_rfl) (by kernel_rfl) (by kernel_rfl) (fun _ _ _ h => h) (give_val (by rfl) ?rt_2) ?_); (case rt_2 => (intro wt hS; (have hcq := cellF hS); go_simp; try with_reducible rfl)); (try simp only [Act.put, List.getElem_toArray, List.getElem_cons_zero, List.getElem_cons_succ, List.setIfInBounds_toArray, List.set_cons_zero, List.set_cons_succ])
        (refine wpAnyR_take (i := 4) (v := ?_) rfl (by kernel_rfl) (by kernel_rfl) (by kernel_rfl) (fun _ _ _ h => h) (give_val (by rfl) ?rt_4) ?_); (case rt_4 => (intro wt hS; go_simp; try with_reducible rfl)); (try simp only [Act.put, List.getElem_toArray, List.getElem_cons_zero, List.getElem_cons_succ, List.setIfInBounds_toArray, List.set_cons_zero, List.set_cons_succ]); (refine wpAnyR_take (i := 5) (v := ?_) rfl (by kernel_rfl) (by kernel_rfl) (by kernel_rfl) (fun _ _ _ h => h) (give_val (by rfl) ?rt_5) ?_); (case rt_5 => (intro wt hS; go_simp; try with_reducible rfl)); (try simp only [Act.put, List.getElem_toArray, List.getElem_cons_zero, List.getElem_cons_succ, List.setIfInBounds_toArray, List.set_cons_zero, List.set_cons_succ])
        (refine wpAnyR_take (i := 6) (v := .int .u32 nn) rfl (by kernel_rfl) (by kernel_rfl) (by kernel_rfl) (fun _ _ _ h => h) (give_val (by rfl) ?rt_6) ?_); (case rt_6 => (intro wt hS; (have hcq := cellF hS); go_simp; try with_reducible rfl)); (try simp only [Act.put, List.getElem_toArray, List.getElem_cons_zero, List.getElem_cons_succ, List.setIfInBounds_toArray, List.set_cons_zero, List.set_cons_succ])
        (refine wpAnyR_ready (rs := [3]) (by kernel_rfl) (by decide) (fun wd hbd HS => ?_)); refine (AllR.cons rfl (fun K' hK => ?_) AllR.nil)
        rw [if_pos (by rfl)]
        have HPD := Lib.hid (HPQ.out.kept hbd)
        have HSD := Lib.hid HS
        unfold Oper.wp
        go_simp
        refine (CP.out _ _ _ HPD.out.c).mono ?_
        rintro e w3 ⟨rfl, hck⟩
        obtain ⟨hM, hO3⟩ := HPD.out.go HSD.out hck
        have HM := Lib.hid hM
        refine hK.out _ _ hO3 ?_
        clear hK K' hM hO3 hck HSD HPD HPQ
        (try simp only [Act.put, List.getElem_toArray, List.getElem_cons_zero, List.getElem_cons_succ, List.setIfInBounds_toArray, List.set_cons_zero, List.set_cons_succ])
        (refine wpAnyR_ready (rs := [7]) (by kernel_rfl) (by decide) (fun wf hbf HS2 => ?_)); refine (AllR.cons rfl (fun K' hK => ?_) AllR.nil)
        rw [if_pos (by rfl)]
        have HMD := Lib.hid (HM.out.kept hbf)
        have HSF := Lib.hid HS2
        unfold Oper.wp
        go_simp
        refine (CR.out _ _ _ _ HMD.out.d).mono ?_
        rintro e w4 ⟨rfl, hrk⟩
        obtain ⟨v', hP5, hO4⟩ := HMD.out.go HSF.out hrk
        have HP5 := Lib.hid hP5
        refine hK.out _ _ hO4 ?_
        clear hK K' hP5 hO4 hrk HSF HMD HM
        (try simp only [Act.put, List.getElem_toArray, List.getElem_cons_zero, List.getElem_cons_succ, List.setIfInBounds_toArray, List.set_cons_zero, List.set_cons_succ])
        (refine wpAnyR_take (i := 8) (v := ?_) rfl (by kernel_rfl) (by kernel_rfl) (by kernel_rfl) (fun _ _ _ h => h) (give_val (by rfl) ?rt_8) ?_); (case rt_8 => (intro wt hS; go_simp; try with_reducible rfl)); (try simp only [Act.put, List.getElem_toArray, List.getElem_cons_zero, List.getElem_cons_succ, List.setIfInBounds_toArray, List.set_cons_zero, List.set_cons_succ]); (refine wpAnyR_take (i := 9) (v := ?_) rfl (by kernel_rfl) (by kernel_rfl) (by kernel_rfl) (fun _ _ _ h => h) (give_val (by rfl) ?rt_9) ?_); (case rt_9 => (intro wt hS; go_simp; try with_reducible rfl)); (try simp only [Act.put, List.getElem_toArray, List.getElem_cons_zero, List.getElem_cons_succ, List.setIfInBounds_toArray, List.set_cons_zero, List.set_cons_succ])
        refine wpAnyR_done (by kernel_rfl) (fun wz hbz HS => ?_) _
        have HPN := Lib.hid (HP5.out.kept hbz)
        clear HP5 hbz
        go_wp2_with ((go_at_call 33; (with_reducible refine (HPN.out.same).mono ?_); rintro e w9 ⟨rfl, hb9⟩))
        have HPZ := Lib.hid (HPN.out.kept hb9)
        clear HPN hb9
        go_roundg (n - (i + 1))
        case measure => omega
        case rel => exact ⟨i + 1, _, _, _, _, _, by omega, rfl, by go_num, rfl, HPZ.out⟩
      by_cases k6 : kd = 6
      · subst k6
        obtain ⟨r, k', day', K', CP, CR⟩ := both_exp k day K nn
        have CP := Lib.hid CP
        have CR := Lib.hid CR
        go_upto_region 24 with fail
        refine wp_region_R (S := fun wt => Opb bo B wt) (by kernel_rfl) HO.out ?_
        obtain ⟨wq, hwq⟩ : ∃ wq, wq = w2.drew := ⟨_, rfl⟩
        have HBQ : Below w2.heap.size w2 wq := by rw [hwq]; exact Below.drew (Below.refl _ _)
        rw [← hwq]
        have HPQ := Lib.hid (HP1.out.kept HBQ)
        clear hwq HBQ HP1 HO
        have HST : ∀ wt wt' : World, Opb bo B wt → Below wt.heap.size wt wt' → Opb bo B wt' := fun _ _ h hb => h.kept hb
        (refine wpAnyR_take (i := 0) (v := ?_) rfl (by kernel_rfl) (by kernel_rfl) (by kernel_rfl) (fun _ _ _ h => h) (give_val (by rfl) ?rt_0) ?_); (case rt_0 => (intro wt hS; go_simp; try with_reducible rfl)); (try simp only [Act.put, List.getElem_toArray, List.getElem_cons_zero, List.getElem_cons_succ, List.setIfInBounds_toArray, List.set_cons_zero, List.set_cons_succ]); (refine wpAnyR_take (i := 1) (v := ?_) rfl (by kernel_rfl) (by kernel_rfl) (by kernel_rfl) (fun _ _ _ h => h) (give_val (by rfl) ?rt_1) ?_); (case rt_1 => (intro wt hS; go_simp; try with_reducible rfl)); (try simp only [Act.put, List.getElem_toArray, List.getElem_cons_zero, List.getElem_cons_succ, List.setIfInBounds_toArray, List.set_cons_zero, List.set_cons_succ])
        (refine wpAnyR_take (i := 2) (v := .int .u32 nn) rfl (by kernel_rfl) (by kernel_rfl) (by kernel_rfl) (fun _ _ _ h => h) (give_val (by rfl) ?rt_2) ?_); (case rt_2 => (intro wt hS; (have hcq := cellF hS); go_simp; try with_reducible rfl)); (try simp only [Act.put, List.getElem_toArray, List.getElem_cons_zero, List.getElem_cons_succ, List.setIfInBounds_toArray, List.set_cons_zero, List.set_cons_succ])
        (refine wpAnyR_take (i := 4) (v := ?_) rfl (by kernel_rfl) (by kernel_rfl) (by kernel_rfl) (fun _ _ _ h => h) (give_val (by rfl) ?rt_4) ?_); (case rt_4 => (intro wt hS; go_simp; try with_reducible rfl)); (try simp only [Act.put, List.getElem_toArray, List.getElem_cons_zero, List.getElem_cons_succ, List.setIfInBounds_toArray, List.set_cons_zero, List.set_cons_succ]); (refine wpAnyR_take (i := 5) (v := ?_) rfl (by kernel_rfl) (by kernel_rfl) (by kernel_rfl) (fun _ _ _ h => h) (give_val (by rfl) ?rt_5) ?_); (case rt_5 => (intro wt hS; go_simp; try with_reducible rfl)); (try simp only [Act.put, List.getElem_toArray, List.getElem_cons_zero, List.getElem_cons_succ, List.setIfInBounds_toArray, List.set_cons_zero, List.set_cons_succ])
        (refine wpAnyR_take (i := 6) (v := .int .u32 nn) rfl (by kernel_rfl) (by kernel_rfl) (by kernel_rfl) (fun _ _ _ h => h) (give_val (by rfl) ?rt_6) ?_); (case rt_6 => (intro wt hS; (have hcq := cellF hS); go_simp; try with_reducible rfl)); (try simp only [Act.put, List.getElem_toArray, List.getElem_cons_zero, List.getElem_cons_succ, List.setIfInBounds_toArray, List.set_cons_zero, List.set_cons_succ])
        (refine wpAnyR_ready (rs := [3]) (by kernel_rfl) (by decide) (fun wd hbd HS => ?_)); refine (AllR.cons rfl (fun K' hK => ?_) AllR.nil)
        rw [if_pos (by rfl)]
        have HPD := Lib.hid (HPQ.out.kept hbd)
        have HSD := Lib.hid HS
        unfold Oper.wp
        go_simp
        refine (CP.out _ _ _ HPD.out.c).mono ?_
        rintro e w3 ⟨rfl, hck⟩
        obtain ⟨hM, hO3⟩ := HPD.out.go HSD.out hck
        have HM := Lib.hid hM
        refine hK.out _ _ hO3 ?_
        clear hK K' hM hO3 hck HSD HPD HPQ
        (try simp only [Act.put, List.getElem_toArray, List.getElem_cons_zero, List.getElem_cons_succ, List.setIfInBounds_toArray, List.set_cons_zero, List.set_cons_succ])
        (refine wpAnyR_ready (rs := [7]) (by kernel_rfl) (by decide) (fun wf hbf HS2 => ?_)); refine (AllR.cons rfl (fun K' hK => ?_) AllR.nil)
        rw [if_pos (by rfl)]
        have HMD := Lib.hid (HM.out.kept hbf)
        have HSF := Lib.hid HS2
        unfold Oper.wp
        go_simp
        refine (CR.out _ _ _ _ HMD.out.d).mono ?_
        rintro e w4 ⟨rfl, hrk⟩
        obtain ⟨v', hP5, hO4⟩ := HMD.out.go HSF.out hrk
        have HP5 := Lib.hid hP5
        refine hK.out _ _ hO4 ?_
        clear hK K' hP5 hO4 hrk HSF HMD HM
        (try simp only [Act.put, List.getElem_toArray, List.getElem_cons_zero, List.getElem_cons_succ, List.setIfInBounds_toArray, List.set_cons_zero, List.set_cons_succ])
        (refine wpAnyR_take (i := 8) (v := ?_) rfl (by kernel_rfl) (by kernel_rfl) (by kernel_rfl) (fun _ _ _ h => h) (give_val (by rfl) ?rt_8) ?_); (case rt_8 => (intro wt hS; go_simp; try with_reducible rfl)); (try simp only [Act.put, List.getElem_toArray, List.getElem_cons_zero, List.getElem_cons_succ, List.setIfInBounds_toArray, List.set_cons_zero, List.set_cons_succ]); (refine wpAnyR_take (i := 9) (v := ?_) rfl (by kernel_rfl) (by kernel_rfl) (by kernel_rfl) (fun _ _ _ h => h) (give_val (by rfl) ?rt_9) ?_); (case rt_9 => (intro wt hS; go_simp; try with_reducible rfl)); (try simp only [Act.put, List.getElem_toArray, List.getElem_cons_zero, List.getElem_cons_succ, List.setIfInBounds_toArray, List.set_cons_zero, List.set_cons_succ])
        refine wpAnyR_done (by kernel_rfl) (fun wz hbz HS => ?_) _
        have HPN := Lib.hid (HP5.out.kept hbz)
        clear HP5 hbz
        go_wp2_with ((go_at_call 33; (with_reducible refine (HPN.out.same).mono ?_); rintro e w9 ⟨rfl, hb9⟩))
        have HPZ := Lib.hid (HPN.out.kept hb9)
        clear HPN hb9
        go_roundg (n - (i + 1))
        case measure => omega
        case rel => exact ⟨i + 1, _, _, _, _, _, by omega, rfl, by go_num, rfl, HPZ.out⟩
      by_cases k7 : kd = 7
      · subst k7
        obtain ⟨r1, k1', day1, K1', CP1, _⟩ := both_next k day K
        obtain ⟨r2, k2', day2, K2', CP2, _⟩ := both_halt k1' day1 K1' nn true
        have CP1 := Lib.hid CP1
        have CP2 := Lib.hid CP2
        have CP3 := Lib.hid (fun (w : World) (g base : Nat) (h : CalIs w g base k2' day2 K2') => show Calls Try.prog 25 #[.pointer (some ⟨g, 0, none⟩), .agg (kq 1 (-1))] w fun e w' => ∃ (r : Int) (k' : Nat) (day' : Int) (L' : Nat → Array Value), e = .returned (.int .i64 r) ∧ CK g base k' day' L' w w' from by
          obtain ⟨r, k', day', L', h1, _⟩ := both_list k2' day2 K2' (kq 1 (-1)) kq_spec h.srt
          exact (h1 w g base h).mono fun e w' ⟨h2, h3⟩ => ⟨r, k', day', L', h2, h3⟩)
        go_wp2_with (first
          | (go_at_call 43; (with_reducible refine (ccopy_any HP1.out.c).mono ?_); rintro e w3 ⟨g2, rfl, hC2, hb3⟩; have HT3 := Lib.hid (tri_new HP1.out hb3 hC2); have HO3 := Lib.hid (HO.out.kept hb3); clear hC2 hb3) | (go_at_call 30; (with_reducible refine (CP1.out _ _ _ HT3.out.p.c).mono ?_); rintro e w4 ⟨rfl, hck⟩; obtain ⟨hT, hO4⟩ := HT3.out.step HO3.out hck; have HT4 := Lib.hid hT; have HO4 := Lib.hid hO4; have hc4 := cellF HO4.out; clear hT hO4 hck) | (go_at_call 29; (with_reducible refine (CP2.out _ _ _ HT4.out.p.c).mono ?_); rintro e w5 ⟨rfl, hck⟩; obtain ⟨hT, hO5⟩ := HT4.out.step HO4.out hck; have HT5 := Lib.hid hT; have HO5 := Lib.hid hO5; clear hT hO5 hck) | (go_at_call 44; (with_reducible refine (small77 _).mono ?_); rintro e w6 ⟨rfl, hb6⟩; have HT6 := Lib.hid (HT5.out.kept hb6); have HO6 := Lib.hid (HO5.out.kept hb6); clear hb6) | (go_at_call 25; (with_reducible refine (CP3.out _ _ _ HT6.out.p.c).mono ?_); rintro e w7 ⟨r3, k3', day3, K3', rfl, hck⟩; obtain ⟨hT, hO7⟩ := HT6.out.step HO6.out hck; have HPN := Lib.hid hT.pair; clear hT hO7 hck) | (go_at_call 33; (with_reducible refine (HPN.out.same).mono ?_); rintro e w9 ⟨rfl, hb9⟩))
        have HPZ := Lib.hid (HPN.out.kept hb9)
        clear HPN hb9
        go_roundg (n - (i + 1))
        case measure => omega
        case rel => exact ⟨i + 1, _, _, _, _, _, by omega, rfl, by go_num, rfl, HPZ.out⟩
      obtain ⟨X, r, hX, CP, CR⟩ := both_get k day K nn HP1.out.c.con
      have CP := Lib.hid CP
      have CR := Lib.hid CR
      have HXS := Lib.hid hX.size
      have HXA := Lib.hid hX.all
      have HXX := Lib.hid (extract_all hX.size)
      have heq := eql_con hX
      have hczs : cz.size = 27 := cz27
      clear hX
      go_wp2_with (first
        | (go_at_call 26; (with_reducible refine (CP.out _ _ _ HP1.out.c).mono ?_); rintro e w3 ⟨rfl, hb3⟩; have hn3 := heap_alloc_new w3 (Obj.cells X 65); have hb34 := below_alloc hb3 (Obj.cells X 65); have HP4 := Lib.hid (HP1.out.kept hb34); have HO4 := Lib.hid (HO.out.kept hb34); have hc4 := cellF HO4.out; clear hb34 hb3) | ((with_reducible refine at_alloc 65 ?_); refine wpList_alloc_named rfl 65 rfl (cz) (by kernel_rfl) ?_) | ((with_reducible refine at_store 65 ?_); refine wpList_store_new rfl 65 _ _ rfl (X) _ _ _ rfl (by simp) rfl (by rw [HXS.out]; kernel_rfl) (by rw [HXS.out]; rfl) (HXA.out) ?_) | (go_at_call 45; (with_reducible refine (CR.out _ _ _ _ HP4.out.d).mono ?_); rintro e w5 ⟨rfl, hb5⟩; have hn5 := heap_alloc_new w5 (Obj.cells X 65); have hn35 := heap_up (o := Obj.cells X 65) (Ytobokknfpjjdeaa.kept hb5 hn3); have HPN := Lib.hid (HP4.out.kept (below_alloc hb5 (Obj.cells X 65))); clear hb5) | ((with_reducible refine at_load 65 ?_); refine wpList_load_part rfl 65 _ rfl (w3.heap.size) (0) rfl _ (X) _ _ 27 (hn35) Try.underlying65 rfl (by kernel_rfl) (by rw [HXS.out]; omega) (X) (HXX.out) ?_) | ((with_reducible refine at_load 65 ?_); refine wpList_load_part rfl 65 _ rfl (w5.heap.size) (0) rfl _ (X) _ _ 27 (hn5) Try.underlying65 rfl (by kernel_rfl) (by rw [HXS.out]; omega) (X) (HXX.out) ?_) | (go_at_call 33; (with_reducible refine (HPN.out.same).mono ?_); rintro e w9 ⟨rfl, hb9⟩))
      have HPZ := Lib.hid (HPN.out.kept hb9)
      clear HPN hb9
      go_roundg (n - (i + 1))
      case measure => omega
      case rel => exact ⟨i + 1, _, _, _, _, _, by omega, rfl, by go_num, rfl, HPZ.out⟩
    · obtain rfl : i = n := by omega
      have HBE := Lib.hid HP.out.be
      clear HP
      go_wp2_with ((go_at_call 24; (with_reducible refine (known05 _).mono ?_); rintro e w2 ⟨rfl, hb2⟩))
      go_ret
      exact ⟨rfl, below_then HBE.out hb2⟩
end Go.Proofs.Ytobokknfpjjdeaa
