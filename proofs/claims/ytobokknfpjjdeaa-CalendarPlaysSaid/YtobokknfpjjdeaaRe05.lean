/- The document's calendar: Due and Expire. Condition: the calendar is one. -/
import Derived.Test.YtobokknfpjjdeaaRd05
import Derived.Test.YtobokknfpjjdeaaHr
namespace Go.Proofs.Ytobokknfpjjdeaa
set_option linter.unusedVariables false
set_option linter.unusedSimpArgs false
open Go.RowKit

/-- of the first j contracts, f is the first one to expire, or -1 -/
def FI (L : Nat → Array Value) (j : Nat) (f : Int) : Prop :=
  (f = -1 ∧ ∀ r, r < j → N (L r) 25 = 3) ∨ (∃ y : Nat, f = y ∧ y < j ∧ N (L y) 25 ≠ 3 ∧ ∀ r, r < j → N (L r) 25 ≠ 3 → N (L y) 23 < N (L r) 23 ∨ (N (L y) 23 = N (L r) 23 ∧ y ≤ r))
theorem fi_due {L : Nat → Array Value} {k i : Nat} {f : Int} (h : FI L k f) (hs : ∀ i j, i < j → j < k → N (L i) 0 < N (L j) 0) (hi : i < k) (ha : N (L i) 25 ≠ 3) : f = i ↔ FirstDue L k i := by
  unfold FirstDue aheadB
  simp only [Bool.or_eq_false_iff, Bool.and_eq_false_iff, decide_eq_false_iff_not]
  constructor
  · rintro rfl j hj hja
    rcases h with ⟨h1, _⟩ | ⟨y, h1, _, _, h4⟩
    · omega
    · obtain rfl : i = y := by omega
      rcases h4 j hj hja with h5 | ⟨h5, h6⟩
      · exact ⟨by omega, .inl (by omega)⟩
      · refine ⟨by omega, .inr ?_⟩
        by_cases e : i = j
        · subst e; omega
        · have := hs i j (by omega) hj; omega
  · intro hf
    rcases h with ⟨_, h2⟩ | ⟨y, rfl, hy, h3, h4⟩
    · exact absurd (h2 i hi) ha
    · obtain ⟨e1, e2⟩ := hf y hy h3
      rcases h4 i hi ha with h5 | ⟨h5, h6⟩
      · exact absurd h5 e1
      · by_cases e : y = i
        · rw [e]
        · have := hs y i (by omega) hi
          rcases e2 with e2 | e2
          · exact absurd h5 e2
          · exact absurd this e2
set_option maxRecDepth 100000 in
set_option maxHeartbeats 2000000 in
theorem rdue_any {w : World} {g base k : Nat} {day : Int} {L : Nat → Array Value} {v : Value} {n : Int} {i : Nat} (h : RIs w g base k day L v) (hi : i < k) (hn : N (L i) 0 = n) (hs : N (L i) 25 ≠ 3) :
    Calls Try.prog 41 #[.pointer (some ⟨g, 0, none⟩), .int .u32 n] w fun e w' => ((e = .returned (.int .i64 51) ∧ ¬ (N (L i) 23 ≤ day ∧ FirstDue L k i)) ∨ (e = .returned (.int .i64 0) ∧ N (L i) 23 ≤ day ∧ FirstDue L k i)) ∧ Below w.heap.size w w' := by
  have ca := Lib.hid (ralive_yes h hi hn hs)
  have HD := Lib.hid (fun (f : Int) (hf : FI L k f) => fi_due hf h.srt hi hs)
  obtain ⟨gb, rc, A, rfl, hA, hbb, hsz, hkr, hrc, htk⟩ := h.at_row (by omega)
  have hk := h.hk
  have HG := Lib.hid h.row
  have HB := Lib.hid hA.blk
  have hc23 : A[i * 27 + 23]? = some (.int .u32 (N (L i) 23)) := by rw [hA.cell hi (by omega)]; exact con_ld (h.con i)
  have HC := Lib.hid (fun (j : Nat) (hj : j < k) => show A[j * 27 + 23]? = some (.int .u32 (N (L j) 23)) from by rw [hA.cell hj (by omega)]; exact con_ld (h.con j))
  have HS := Lib.hid (fun (j : Nat) (hj : j < k) => show A[j * 27 + 25]? = some (.int .u8 (N (L j) 25)) from by rw [hA.cell hj (by omega)]; exact (h.con j).st.u8.1)
  have hik : (i : Int) < k := by omega
  have HG1 := HG
  have HB1 := HB
  have hd2 : decide ((0 : Int) < 0) = false := by decide
  have hd3 := hd2
  have hd4 := hd2
  have hd5 := hd2
  clear h hA hn hs htk hsz
  by_cases hd : day < N (L i) 23
  · have HNO := Lib.hid (show ¬ (N (L i) 23 ≤ day ∧ FirstDue L k i) from fun h => by omega)
    generalize N (L i) 23 = ld at *
    have hd1 : decide (day < ld) = true := decide_eq_true hd
    go_enter Try.func41, Try.ntmps41
    go_wp2_with (first | (go_at_call 71; (with_reducible refine (ca.out).mono ?_); rintro e w1 ⟨rfl, rfl⟩))
    refine wp_region_below (by kernel_rfl) (by kernel_rfl) ?_
    repeat (first | ((with_reducible apply q_skip); (case hw => rfl); (try simp only [Act.put, List.setIfInBounds_toArray, List.set_cons_zero, List.set_cons_succ, hd1, hd2, hd3, hd4, hd5, Bool.not_false, Bool.not_true])) | ((with_reducible apply q_val); (case hw => rfl); (case hv => intro wq hbq; have hcL := cellF (Ytobokknfpjjdeaa.kept hbq HG1.out); have hcA := cellF (Ytobokknfpjjdeaa.kept hbq HB1.out); go_simp; try rfl); (try simp only [Act.put, List.setIfInBounds_toArray, List.set_cons_zero, List.set_cons_succ, hd1, hd2, hd3, hd4, hd5, Bool.not_false, Bool.not_true])))
    refine q_nil ?_
    intro w4 hb4
    go_wp2
    go_ret
    exact ⟨.inl ⟨rfl, HNO.out⟩, hb4⟩
  have HDY := Lib.hid (show N (L i) 23 ≤ day from by omega)
  have hd1 : decide (day < N (L i) 23) = false := decide_eq_false hd
  go_enter Try.func41, Try.ntmps41
  go_wp2_with (first | (go_at_call 71; (with_reducible refine (ca.out).mono ?_); rintro e w1 ⟨rfl, rfl⟩))
  refine wp_region_below (by kernel_rfl) (by kernel_rfl) ?_
  repeat (first | ((with_reducible apply q_skip); (case hw => rfl); (try simp only [Act.put, List.setIfInBounds_toArray, List.set_cons_zero, List.set_cons_succ, hd1, hd2, hd3, hd4, hd5, Bool.not_false, Bool.not_true])) | ((with_reducible apply q_val); (case hw => rfl); (case hv => intro wq hbq; have hcL := cellF (Ytobokknfpjjdeaa.kept hbq HG1.out); have hcA := cellF (Ytobokknfpjjdeaa.kept hbq HB1.out); go_simp; try rfl); (try simp only [Act.put, List.setIfInBounds_toArray, List.set_cons_zero, List.set_cons_succ, hd1, hd2, hd3, hd4, hd5, Bool.not_false, Bool.not_true])))
  refine q_nil ?_
  intro w4 hb4
  go_wp2
  have HB0 := Lib.hid hb4
  clear hb4 hd1 hc23
  go_loopg [7, 8] k (fun gh v7 v8 wr => ∃ (j : Nat) (f : Int), j ≤ k ∧ gh = k - j ∧ v8 = .int .i64 j ∧ v7 = .int .i64 f ∧ FI L j f ∧ Below w.heap.size w wr)
  case atStart => exact ⟨0, -1, by omega, by omega, rfl, rfl, .inl ⟨rfl, fun r hr => by omega⟩, HB0.out⟩
  case round =>
    obtain ⟨j, f, hj, rfl, rfl, rfl, hf, hb⟩ := hrel
    have HBR := Lib.hid hb
    have HF := Lib.hid hf
    have HG1 := Lib.hid (Ytobokknfpjjdeaa.kept hb HG.out)
    have HB1 := Lib.hid (Ytobokknfpjjdeaa.kept hb HB.out)
    have cg := cellF HG1.out
    have cb := cellF HB1.out
    clear hb hf
    by_cases hjk : j < k
    · have hjki : (j : Int) < k := by omega
      have hs25 := HS.out j hjk
      have hs23 := HC.out j hjk
      by_cases hst : N (L j) 25 = 3
      · have HFN := Lib.hid (show FI L (j + 1) f from by
          rcases HF.out with ⟨h1, h2⟩ | ⟨y, h1, h2, h3, h4⟩
          · exact .inl ⟨h1, fun r hr => by
              by_cases e : r = j
              · rw [e]; exact hst
              · exact h2 r (by omega)⟩
          · exact .inr ⟨y, h1, by omega, h3, fun r hr hra => by
              by_cases e : r = j
              · rw [e] at hra; exact absurd hst hra
              · exact h4 r (by omega) hra⟩)
        rw [hst] at hs25
        have hd1 : decide ((3 : Int) = 3) = true := by decide
        clear hst
        go_wp2
        refine wp_region_below (by kernel_rfl) (by kernel_rfl) ?_
        repeat (first | ((with_reducible apply q_skip); (case hw => rfl); (try simp only [Act.put, List.setIfInBounds_toArray, List.set_cons_zero, List.set_cons_succ, hd1, hd2, hd3, hd4, hd5, Bool.not_false, Bool.not_true])) | ((with_reducible apply q_val); (case hw => rfl); (case hv => intro wq hbq; have hcL := cellF (Ytobokknfpjjdeaa.kept hbq HG1.out); have hcA := cellF (Ytobokknfpjjdeaa.kept hbq HB1.out); go_simp; try rfl); (try simp only [Act.put, List.setIfInBounds_toArray, List.set_cons_zero, List.set_cons_succ, hd1, hd2, hd3, hd4, hd5, Bool.not_false, Bool.not_true])))
        refine q_nil ?_
        intro w4 hb4
        go_wp2
        go_roundg (k - (j + 1))
        case measure => omega
        case rel => exact ⟨j + 1, _, by omega, rfl, by go_num, rfl, HFN.out, below_then HBR.out hb4⟩
      · have hd1 : decide (N (L j) 25 = 3) = false := decide_eq_false hst
        have hd3 : (N (L j) 25 != 3) = true := bne_iff_ne.2 hst
        have hd4 : (N (L j) 25 == 3) = false := beq_eq_false_iff_ne.2 hst
        have hd5 : decide (¬ N (L j) 25 = 3) = true := decide_eq_true hst
        rcases HF.out with ⟨rfl, h2⟩ | ⟨y, rfl, hy, h3, h4⟩
        · have HFN := Lib.hid (show FI L (j + 1) j from .inr ⟨j, rfl, by omega, hst, fun r hr hra => by
            by_cases e : r = j
            · subst e; exact .inr ⟨rfl, Nat.le_refl _⟩
            · exact absurd (h2 r (by omega)) hra⟩)
          generalize N (L j) 25 = s at *
          clear h2
          go_wp2
          refine wp_region_below (by kernel_rfl) (by kernel_rfl) ?_
          repeat (first | ((with_reducible apply q_skip); (case hw => rfl); (try simp only [Act.put, List.setIfInBounds_toArray, List.set_cons_zero, List.set_cons_succ, hd1, hd2, hd3, hd4, hd5, Bool.not_false, Bool.not_true])) | ((with_reducible apply q_val); (case hw => rfl); (case hv => intro wq hbq; have hcL := cellF (Ytobokknfpjjdeaa.kept hbq HG1.out); have hcA := cellF (Ytobokknfpjjdeaa.kept hbq HB1.out); go_simp; try rfl); (try simp only [Act.put, List.setIfInBounds_toArray, List.set_cons_zero, List.set_cons_succ, hd1, hd2, hd3, hd4, hd5, Bool.not_false, Bool.not_true])))
          refine q_nil ?_
          intro w4 hb4
          go_wp2
          go_roundg (k - (j + 1))
          case measure => omega
          case rel => exact ⟨j + 1, _, by omega, rfl, by go_num, rfl, HFN.out, below_then HBR.out hb4⟩
        · have hyk : (y : Int) < k := by omega
          have hy23 := HC.out y (by omega)
          have hy0 : ¬ (y : Int) < 0 := by omega
          by_cases hlt : N (L j) 23 < N (L y) 23
          · have HFN := Lib.hid (show FI L (j + 1) j from .inr ⟨j, rfl, by omega, hst, fun r hr hra => by
              by_cases e : r = j
              · subst e; exact .inr ⟨rfl, Nat.le_refl _⟩
              · rcases h4 r (by omega) hra with h5 | ⟨h5, _⟩
                · exact .inl (by omega)
                · exact .inl (by omega)⟩)
            have hd2 : decide (N (L j) 23 < N (L y) 23) = true := decide_eq_true hlt
            generalize N (L j) 25 = s at *
            generalize N (L j) 23 = lj at *
            generalize N (L y) 23 = ly at *
            clear h4 h3
            go_wp2
            refine wp_region_below (by kernel_rfl) (by kernel_rfl) ?_
            repeat (first | ((with_reducible apply q_skip); (case hw => rfl); (try simp only [Act.put, List.setIfInBounds_toArray, List.set_cons_zero, List.set_cons_succ, hd1, hd2, hd3, hd4, hd5, Bool.not_false, Bool.not_true])) | ((with_reducible apply q_val); (case hw => rfl); (case hv => intro wq hbq; have hcL := cellF (Ytobokknfpjjdeaa.kept hbq HG1.out); have hcA := cellF (Ytobokknfpjjdeaa.kept hbq HB1.out); go_simp; try rfl); (try simp only [Act.put, List.setIfInBounds_toArray, List.set_cons_zero, List.set_cons_succ, hd1, hd2, hd3, hd4, hd5, Bool.not_false, Bool.not_true])))
            refine q_nil ?_
            intro w4 hb4
            go_wp2
            go_roundg (k - (j + 1))
            case measure => omega
            case rel => exact ⟨j + 1, _, by omega, rfl, by go_num, rfl, HFN.out, below_then HBR.out hb4⟩
          · have HFN := Lib.hid (show FI L (j + 1) y from .inr ⟨y, rfl, by omega, h3, fun r hr hra => by
              by_cases e : r = j
              · subst e
                by_cases e2 : N (L y) 23 < N (L r) 23
                · exact .inl e2
                · exact .inr ⟨by omega, by omega⟩
              · exact h4 r (by omega) hra⟩)
            have hd2 : decide (N (L j) 23 < N (L y) 23) = false := decide_eq_false hlt
            generalize N (L j) 25 = s at *
            generalize N (L j) 23 = lj at *
            generalize N (L y) 23 = ly at *
            clear h4 h3
            go_wp2
            refine wp_region_below (by kernel_rfl) (by kernel_rfl) ?_
            repeat (first | ((with_reducible apply q_skip); (case hw => rfl); (try simp only [Act.put, List.setIfInBounds_toArray, List.set_cons_zero, List.set_cons_succ, hd1, hd2, hd3, hd4, hd5, Bool.not_false, Bool.not_true])) | ((with_reducible apply q_val); (case hw => rfl); (case hv => intro wq hbq; have hcL := cellF (Ytobokknfpjjdeaa.kept hbq HG1.out); have hcA := cellF (Ytobokknfpjjdeaa.kept hbq HB1.out); go_simp; try rfl); (try simp only [Act.put, List.setIfInBounds_toArray, List.set_cons_zero, List.set_cons_succ, hd1, hd2, hd3, hd4, hd5, Bool.not_false, Bool.not_true])))
            refine q_nil ?_
            intro w4 hb4
            go_wp2
            go_roundg (k - (j + 1))
            case measure => omega
            case rel => exact ⟨j + 1, _, by omega, rfl, by go_num, rfl, HFN.out, below_then HBR.out hb4⟩
    · obtain rfl : j = k := by omega
      have HI := Lib.hid (HD.out f HF.out)
      clear hd2 hd3 hd4 hd5
      by_cases hfi : f = i
      · have HX := Lib.hid (HI.out.1 hfi)
        subst hfi
        go_wp2
        go_ret
        first | exact ⟨.inr ⟨rfl, HDY.out, HX.out⟩, HBR.out⟩ | exact ⟨.inr ⟨rfl, HX.out⟩, HBR.out⟩
      · have HX := Lib.hid (show ¬ FirstDue L j i from fun h => hfi (HI.out.2 h))
        go_wp2
        go_ret
        exact ⟨.inl ⟨rfl, fun h => HX.out h.2⟩, HBR.out⟩
theorem RKept.later {w w1 w2 : World} {g base k : Nat} {day : Int} {L : Nat → Array Value} {v : Value} (h : RKept g base k day L v w w1) (hb : Below w1.heap.size w1 w2) (hbw : base ≤ w.heap.size) : RKept g base k day L v w w2 :=
  ⟨h.1.kept hb, h.2.1.trans (hb.mono (by have := h.2.1.size; omega)), fun i h1 h2 h3 => (hb.block i (by have := h.2.1.size; omega)).trans (h.2.2 i h1 h2 h3)⟩
set_option maxRecDepth 100000 in
set_option maxHeartbeats 1000000 in
theorem rexp_in {w : World} {g base k : Nat} {day : Int} {L : Nat → Array Value} {v : Value} {n : Int} {i : Nat} (h : RIs w g base k day L v) (hi : i < k) (hn : N (L i) 0 = n) (hs : N (L i) 25 ≠ 3) :
    Calls Try.prog 42 #[.pointer (some ⟨g, 0, none⟩), .int .u32 n] w fun e w' => (e = .returned (.int .i64 51) ∧ ¬ (N (L i) 23 ≤ day ∧ FirstDue L k i) ∧ Below w.heap.size w w') ∨
      (e = .returned (.int .i64 0) ∧ N (L i) 23 ≤ day ∧ FirstDue L k i ∧ RKept g base k day (stt L i 3) v w w') := by
  have cd := rdue_any h hi hn hs
  have HH := Lib.hid h
  obtain ⟨gb, rc, A, rfl, hA, hbb, hsz, hkr, hrc, htk⟩ := h.at_row (by omega)
  have hk := h.hk
  have CP := Lib.hid (fun w1 (h1 : ∃ L', (∀ r, N (L' r) 0 = N (L r) 0) ∧ RIs w1 g base k day L' (.slice (some ⟨gb, 0, none⟩) k rc)) => show Calls Try.prog 70 #[.pointer (some ⟨g, 0, none⟩), .int .u32 n] w1 fun e w' => e = .returned (.int .i64 i) ∧ Below w1.heap.size w1 w' from by
    obtain ⟨L', hN, h1⟩ := h1
    exact (rplace_in h1 hi (by rw [hN]; exact hn)).mono fun e w' ⟨h1, h2⟩ => ⟨h1, by subst h2; exact Below.refl _ _⟩)
  have hbw : base ≤ w.heap.size := by have := (Array.getElem?_eq_some_iff.1 hA.blk).1; omega
  have hik : (i : Int) < k := by omega
  have HG := Lib.hid h.row
  have HB := Lib.hid hA.blk
  have HZ := Lib.hid (show i * 27 + 27 ≤ A.size from (hA.at_ i hi).1)
  have hlt25 : A[i * 27 + 25]? = some (A[i * 27 + 25]'(by have := HZ.out; omega)) := Array.getElem?_eq_getElem _
  obtain ⟨v25, hv25⟩ : ∃ v, A[i * 27 + 25]? = some v := ⟨_, hlt25⟩
  have HF := Lib.hid (fun (w1 : World) (hb1 : Below w.heap.size w w1) => rcal_set (L' := stt L i 3) (u := .int .u8 3) h hA hbb hsz hkr hrc htk hi (show 25 < 27 by omega) rfl (con_stt h.con (by decide)) (fun r => N_stt r 0 (by decide)) hb1)
  clear h hA hn hs htk hlt25
  go_enter Try.func42, Try.ntmps42
  go_wp2_with fail
  go_at_call 41
  refine cd.mono ?_
  rintro e w1 ⟨⟨rfl, hno⟩ | ⟨rfl, hy1, hy2⟩, hb⟩
  · have HN := Lib.hid hno
    clear hno
    go_wp2_with fail
    go_ret
    exact .inl ⟨rfl, HN.out, hb⟩
  · have HY := Lib.hid (And.intro hy1 hy2)
    have HH1 := HH.out.kept hb
    clear hy1 hy2
    go_wp2_with fail
    refine wp_region_R (S := fun wt => ∃ L', (∀ r, N (L' r) 0 = N (L r) 0) ∧ RIs wt g base k day L' (.slice (some ⟨gb, 0, none⟩) k rc)) (by kernel_rfl) ⟨L, fun _ => rfl, HH1.kept (Below.drew (Below.refl _ _))⟩ ?_
    obtain ⟨wq, hwq⟩ : ∃ wq, wq = w1.drew := ⟨_, rfl⟩
    have HBQ : Below w.heap.size w wq := by rw [hwq]; exact Below.drew hb
    rw [← hwq]
    clear hwq HH1
    have HST : ∀ wt wt' : World, (∃ L', (∀ r, N (L' r) 0 = N (L r) 0) ∧ RIs wt g base k day L' (.slice (some ⟨gb, 0, none⟩) k rc)) → Below wt.heap.size wt wt' → (∃ L', (∀ r, N (L' r) 0 = N (L r) 0) ∧ RIs wt' g base k day L' (.slice (some ⟨gb, 0, none⟩) k rc)) := fun _ _ ⟨L', h1, h2⟩ hb => ⟨L', h1, h2.kept hb⟩
    (refine wpAnyR_take (i := 0) (v := ?_) rfl (by kernel_rfl) (by kernel_rfl) (by kernel_rfl) (fun _ _ _ h => h) (give_val (by rfl) ?rt_0) ?_); (case rt_0 => (intro wt hS; go_simp; try with_reducible rfl)); (try simp only [Act.put, List.getElem_toArray, List.getElem_cons_zero, List.getElem_cons_succ, List.setIfInBounds_toArray, List.set_cons_zero, List.set_cons_succ]); (refine wpAnyR_take (i := 1) (v := ?_) rfl (by kernel_rfl) (by kernel_rfl) (by kernel_rfl) (fun _ _ _ h => h) (give_val (by rfl) ?rt_1) ?_); (case rt_1 => (intro wt hS; go_simp; try with_reducible rfl)); (try simp only [Act.put, List.getElem_toArray, List.getElem_cons_zero, List.getElem_cons_succ, List.setIfInBounds_toArray, List.set_cons_zero, List.set_cons_succ]); (refine wpAnyR_take (i := 2) (v := ?_) rfl (by kernel_rfl) (by kernel_rfl) (by kernel_rfl) (fun _ _ _ h => h) (give_val (by rfl) ?rt_2) ?_); (case rt_2 => (intro wt hS; go_simp; try with_reducible rfl)); (try simp only [Act.put, List.getElem_toArray, List.getElem_cons_zero, List.getElem_cons_succ, List.setIfInBounds_toArray, List.set_cons_zero, List.set_cons_succ])
    (refine wpAnyR_take (i := 3) (v := .slice (some ⟨gb, 0, none⟩) k rc) rfl (by kernel_rfl) (by kernel_rfl) (by kernel_rfl) (fun _ _ _ h => h) (give_val (by rfl) ?rt_3) ?_); (case rt_3 => (intro wt hS; (obtain ⟨L', hN, h1⟩ := hS; have hcq := cellF h1.row); go_simp; try with_reducible rfl)); (try simp only [Act.put, List.getElem_toArray, List.getElem_cons_zero, List.getElem_cons_succ, List.setIfInBounds_toArray, List.set_cons_zero, List.set_cons_succ])
    (refine wpAnyR_take (i := 4) (v := ?_) rfl (by kernel_rfl) (by kernel_rfl) (by kernel_rfl) (fun _ _ _ h => h) (give_val (by rfl) ?rt_4) ?_); (case rt_4 => (intro wt hS; go_simp; try with_reducible rfl)); (try simp only [Act.put, List.getElem_toArray, List.getElem_cons_zero, List.getElem_cons_succ, List.setIfInBounds_toArray, List.set_cons_zero, List.set_cons_succ]); (refine wpAnyR_take (i := 5) (v := ?_) rfl (by kernel_rfl) (by kernel_rfl) (by kernel_rfl) (fun _ _ _ h => h) (give_val (by rfl) ?rt_5) ?_); (case rt_5 => (intro wt hS; go_simp; try with_reducible rfl)); (try simp only [Act.put, List.getElem_toArray, List.getElem_cons_zero, List.getElem_cons_succ, List.setIfInBounds_toArray, List.set_cons_zero, List.set_cons_succ])
    (refine wpAnyR_take (i := 6) rfl (by kernel_rfl) (by kernel_rfl) (by kernel_rfl) (fun _ _ _ h => h) (give_call 70 _ (by rfl) (fun wt hS => by go_simp) (fun wt hS => CP.out wt hS) HST) ?_)
    (try simp only [Act.put, List.getElem_toArray, List.getElem_cons_zero, List.getElem_cons_succ, List.setIfInBounds_toArray, List.set_cons_zero, List.set_cons_succ])
    (refine wpAnyR_take (i := 7) (v := ?_) rfl (by kernel_rfl) (by kernel_rfl) (by kernel_rfl) (fun _ _ _ h => h) (give_val (by rfl) ?rt_7) ?_); (case rt_7 => (intro wt hS; go_simp; try with_reducible rfl)); (try simp only [Act.put, List.getElem_toArray, List.getElem_cons_zero, List.getElem_cons_succ, List.setIfInBounds_toArray, List.set_cons_zero, List.set_cons_succ]); (refine wpAnyR_take (i := 8) (v := ?_) rfl (by kernel_rfl) (by kernel_rfl) (by kernel_rfl) (fun _ _ _ h => h) (give_val (by rfl) ?rt_8) ?_); (case rt_8 => (intro wt hS; go_simp; try with_reducible rfl)); (try simp only [Act.put, List.getElem_toArray, List.getElem_cons_zero, List.getElem_cons_succ, List.setIfInBounds_toArray, List.set_cons_zero, List.set_cons_succ])
    (refine wpAnyR_ready (rs := [9]) (by kernel_rfl) (by decide) (fun wd hbd HS => ?_)); refine (AllR.cons rfl (fun K' hK => ?_) AllR.nil)
    rw [if_pos (by rfl)]
    have HBD := Lib.hid (below_then HBQ hbd)
    have hg2 := Ytobokknfpjjdeaa.kept HBD.out HB.out
    have c2 := cellF hg2
    have f2 := (cells_of hg2).2.1
    have HW := Lib.hid (HF.out wd HBD.out)
    unfold Oper.wp
    go_simp
    refine hK.out _ _ ⟨_, fun r => N_stt r 0 (by decide), HW.out.1⟩ ?_
    refine wpAnyR_done (by kernel_rfl) (fun wz hbz HS => ?_) _
    have HWZ := Lib.hid (HW.out.later hbz hbw)
    clear hK K'
    go_wp2
    go_ret
    exact .inr ⟨rfl, HY.out.1, HY.out.2, HWZ.out⟩
theorem rexp_out {w : World} {g base k : Nat} {day : Int} {L : Nat → Array Value} {v : Value} {n : Int} (h : RIs w g base k day L v) (hn : ∀ i, i < k → N (L i) 0 ≠ n) :
    Calls Try.prog 42 #[.pointer (some ⟨g, 0, none⟩), .int .u32 n] w fun e w' => e = .returned (.int .i64 7) ∧ w = w' := by
  have cd := rdue_out h hn
  go_enter Try.func42, Try.ntmps42
  go_wp2_with ((go_at_call 41; (with_reducible refine (cd).mono ?_); rintro e w1 ⟨rfl, rfl⟩))
  go_ret
  exact ⟨rfl, rfl⟩
theorem rexp_gone {w : World} {g base k : Nat} {day : Int} {L : Nat → Array Value} {v : Value} {n : Int} {i : Nat} (h : RIs w g base k day L v) (hi : i < k) (hn : N (L i) 0 = n) (hs : N (L i) 25 = 3) :
    Calls Try.prog 42 #[.pointer (some ⟨g, 0, none⟩), .int .u32 n] w fun e w' => e = .returned (.int .i64 50) ∧ w = w' := by
  have cd := rdue_gone h hi hn hs
  go_enter Try.func42, Try.ntmps42
  go_wp2_with ((go_at_call 41; (with_reducible refine (cd).mono ?_); rintro e w1 ⟨rfl, rfl⟩))
  go_ret
  exact ⟨rfl, rfl⟩
end Go.Proofs.Ytobokknfpjjdeaa
