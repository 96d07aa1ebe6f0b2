/- Halt, Publish of a calendar. Condition: the calendar is one. -/
import Derived.Test.YtobokknfpjjdeaaCalR
namespace Go.Proofs.Ytobokknfpjjdeaa
set_option linter.unusedVariables false
set_option linter.unusedSimpArgs false
open Go.RowKit

theorem chalt_out {w : World} {g base k : Nat} {day : Int} {L : Nat → Array Value} {n : Int} (on : Bool) (h : CalIs w g base k day L) (hn : ∀ i, i < k → N (L i) 0 ≠ n) :
    Calls Try.prog 29 #[.pointer (some ⟨g, 0, none⟩), .int .u32 n, .bool on] w fun e w' => e = .returned (.int .i64 7) ∧ Below w.heap.size w w' := by
  have ca := calive_out h hn
  go_enter Try.func29, Try.ntmps29
  go_wp2_with ((go_at_call 61; (with_reducible refine (ca).mono ?_); rintro e w1 ⟨rfl, hb⟩))
  go_ret
  exact ⟨rfl, hb⟩
theorem chalt_gone {w : World} {g base k : Nat} {day : Int} {L : Nat → Array Value} {n : Int} {i : Nat} (on : Bool) (h : CalIs w g base k day L) (hi : i < k) (hn : N (L i) 0 = n) (hs : N (L i) 25 = 3) :
    Calls Try.prog 29 #[.pointer (some ⟨g, 0, none⟩), .int .u32 n, .bool on] w fun e w' => e = .returned (.int .i64 50) ∧ Below w.heap.size w w' := by
  have ca := calive_gone h hi hn hs
  go_enter Try.func29, Try.ntmps29
  go_wp2_with ((go_at_call 61; (with_reducible refine (ca).mono ?_); rintro e w1 ⟨rfl, hb⟩))
  go_ret
  exact ⟨rfl, hb⟩
theorem cpub_out {w : World} {g base k : Nat} {day : Int} {L : Nat → Array Value} {n : Int} (x : Int) (h : CalIs w g base k day L) (hn : ∀ i, i < k → N (L i) 0 ≠ n) :
    Calls Try.prog 28 #[.pointer (some ⟨g, 0, none⟩), .int .u32 n, .int .i64 x] w fun e w' => e = .returned (.int .i64 7) ∧ Below w.heap.size w w' := by
  have ca := calive_out h hn
  go_enter Try.func28, Try.ntmps28
  go_wp2_with ((go_at_call 61; (with_reducible refine (ca).mono ?_); rintro e w1 ⟨rfl, hb⟩))
  go_ret
  exact ⟨rfl, hb⟩
theorem cpub_gone {w : World} {g base k : Nat} {day : Int} {L : Nat → Array Value} {n : Int} {i : Nat} (x : Int) (h : CalIs w g base k day L) (hi : i < k) (hn : N (L i) 0 = n) (hs : N (L i) 25 = 3) :
    Calls Try.prog 28 #[.pointer (some ⟨g, 0, none⟩), .int .u32 n, .int .i64 x] w fun e w' => e = .returned (.int .i64 50) ∧ Below w.heap.size w w' := by
  have ca := calive_gone h hi hn hs
  go_enter Try.func28, Try.ntmps28
  go_wp2_with ((go_at_call 61; (with_reducible refine (ca).mono ?_); rintro e w1 ⟨rfl, hb⟩))
  go_ret
  exact ⟨rfl, hb⟩
theorem cdue_out {w : World} {g base k : Nat} {day : Int} {L : Nat → Array Value} {n : Int} (h : CalIs w g base k day L) (hn : ∀ i, i < k → N (L i) 0 ≠ n) :
    Calls Try.prog 35 #[.pointer (some ⟨g, 0, none⟩), .int .u32 n] w fun e w' => e = .returned (.int .i64 7) ∧ Below w.heap.size w w' := by
  have ca := calive_out h hn
  go_enter Try.func35, Try.ntmps35
  go_wp2_with ((go_at_call 61; (with_reducible refine (ca).mono ?_); rintro e w1 ⟨rfl, hb⟩))
  go_ret
  exact ⟨rfl, below_then hb (below_new _ _)⟩
theorem cdue_gone {w : World} {g base k : Nat} {day : Int} {L : Nat → Array Value} {n : Int} {i : Nat} (h : CalIs w g base k day L) (hi : i < k) (hn : N (L i) 0 = n) (hs : N (L i) 25 = 3) :
    Calls Try.prog 35 #[.pointer (some ⟨g, 0, none⟩), .int .u32 n] w fun e w' => e = .returned (.int .i64 50) ∧ Below w.heap.size w w' := by
  have ca := calive_gone h hi hn hs
  go_enter Try.func35, Try.ntmps35
  go_wp2_with ((go_at_call 61; (with_reducible refine (ca).mono ?_); rintro e w1 ⟨rfl, hb⟩))
  go_ret
  exact ⟨rfl, below_then hb (below_new _ _)⟩
set_option maxRecDepth 100000 in
set_option maxHeartbeats 1000000 in
theorem cpub_bad {w : World} {g base k : Nat} {day : Int} {L : Nat → Array Value} {n : Int} {i : Nat} (x : Int) (h : CalIs w g base k day L) (hi : i < k) (hn : N (L i) 0 = n) (hs : N (L i) 25 ≠ 3) (hx : F64 x) (hp : ipB ((L i).extract 0 25) x = false) :
    Calls Try.prog 28 #[.pointer (some ⟨g, 0, none⟩), .int .u32 n, .int .i64 x] w fun e w' => e = .returned (.int .i64 52) ∧ Below w.heap.size w w' := by
  obtain ⟨gb, rc, A, hA, hbb, hsz, hkr, hrc, htk⟩ := h.at_row (by omega)
  have ca := Lib.hid (calive_yes h hi hn hA hs)
  have HA := Lib.hid hA
  have hex : A.extract (i * 27) (i * 27 + 25) = (L i).extract 0 25 := by
    have h1 := (hA.2.2 i hi).2
    have h2 := congrArg (fun B : Array Value => B.extract 0 25) h1
    simp only [Array.extract_extract] at h2
    rw [show min (i * 27 + 25) (i * 27 + 27) = i * 27 + 25 by omega] at h2
    simpa using h2
  have HX := Lib.hid hex
  have HZ := Lib.hid (show i * 27 + 27 ≤ A.size from (hA.2.2 i hi).1)
  have cp := Lib.hid (fun w1 => isprice_any ((L i).extract 0 25) x w1 (h.con i).sp hx)
  rw [hp] at cp
  clear h hA hn hs hex htk hp
  go_enter Try.func28, Try.ntmps28
  go_wp2_with (first | (go_at_call 61; (with_reducible refine (ca.out).mono ?_); rintro e w1 ⟨rfl, hb⟩; have h2 := HA.out.kept hb; have hg2 := h2.2.1; clear h2) | ((with_reducible refine at_load 61 ?_); refine wpList_load_part rfl 61 _ rfl (gb) (i * 27) rfl _ (A) _ _ 25 (hg2) Try.underlying61 rfl (by kernel_rfl) (by have := HZ.out; omega) ((L i).extract 0 25) (HX.out) ?_) | (go_at_call 62; (with_reducible refine (cp.out _).mono ?_); rintro e w2 ⟨rfl, hb2⟩))
  go_ret
  exact ⟨rfl, below_then hb hb2⟩
set_option maxRecDepth 100000 in
set_option maxHeartbeats 1000000 in
theorem cpub_set {w : World} {g base k : Nat} {day : Int} {L : Nat → Array Value} {n : Int} {i : Nat} (x : Int) (h : CalIs w g base k day L) (hi : i < k) (hn : N (L i) 0 = n) (hs : N (L i) 25 ≠ 3) (hx : F64 x) (hp : ipB ((L i).extract 0 25) x = true) :
    Calls Try.prog 28 #[.pointer (some ⟨g, 0, none⟩), .int .u32 n, .int .i64 x] w fun e w' => e = .returned (.int .i64 0) ∧ CalIs w' g base k day (pr L i x) ∧ Below base w w' ∧ Kv g w w' := by
  obtain ⟨gb, rc, A, hA, hbb, hsz, hkr, hrc, htk⟩ := h.at_row (by omega)
  have ca := Lib.hid (calive_yes h hi hn hA hs)
  have HA := Lib.hid hA
  have hex : A.extract (i * 27) (i * 27 + 25) = (L i).extract 0 25 := by
    have h1 := (hA.2.2 i hi).2
    have h2 := congrArg (fun B : Array Value => B.extract 0 25) h1
    simp only [Array.extract_extract] at h2
    rw [show min (i * 27 + 25) (i * 27 + 27) = i * 27 + 25 by omega] at h2
    simpa using h2
  have HX := Lib.hid hex
  have HZ := Lib.hid (show i * 27 + 27 ≤ A.size from (hA.2.2 i hi).1)
  have cp := Lib.hid (fun w1 => isprice_any ((L i).extract 0 25) x w1 (h.con i).sp hx)
  rw [hp] at cp
  have hlt26 : A[i * 27 + 26]? = some (A[i * 27 + 26]'(by have := HZ.out; omega)) := Array.getElem?_eq_getElem _
  obtain ⟨v26, hv26⟩ : ∃ v, A[i * 27 + 26]? = some v := ⟨_, hlt26⟩
  have HF := Lib.hid (fun (w1 : World) (hb1 : Below w.heap.size w w1) => cal_set (L' := pr L i x) (u := .int .i64 x) h hA hbb hsz hkr hrc htk hi (show 26 < 27 by omega) rfl (con_pr h.con hx) (fun r => N_pr r 0 (by decide)) hb1)
  clear h hA hn hs hex htk hp hlt26
  go_enter Try.func28, Try.ntmps28
  go_wp2_with (first | (go_at_call 61; (with_reducible refine (ca.out).mono ?_); rintro e w1 ⟨rfl, hb⟩; have h2 := HA.out.kept hb; have hg2 := h2.2.1; clear h2) | ((with_reducible refine at_load 61 ?_); refine wpList_load_part rfl 61 _ rfl (gb) (i * 27) rfl _ (A) _ _ 25 (hg2) Try.underlying61 rfl (by kernel_rfl) (by have := HZ.out; omega) ((L i).extract 0 25) (HX.out) ?_) | (go_at_call 62; (with_reducible refine (cp.out _).mono ?_); rintro e w2 ⟨rfl, hb2⟩; have hb3 := below_then hb hb2; have hg3 := Ytobokknfpjjdeaa.kept hb2 hg2; have c3 := cellF hg3; have f3 := (cells_of hg3).2.1))
  go_ret
  exact ⟨rfl, HF.out _ hb3⟩
theorem set_twice (w : World) (g i : Nat) (u v : Value) : (w.setCell ⟨g, i, none⟩ u).setCell ⟨g, i, none⟩ v = w.setCell ⟨g, i, none⟩ v := by
  unfold World.setCell
  simp only [World.mk.injEq, and_true, true_and]
  apply Array.ext
  · simp
  · intro j h1 h2
    simp only [Array.getElem_modify]
    by_cases e : g = j
    · simp only [e, if_true]
      generalize w.heap[j]'(by simpa using h2) = o
      cases o <;> simp
    · simp [e]
set_option maxRecDepth 100000 in
set_option maxHeartbeats 1000000 in
theorem chalt_set {w : World} {g base k : Nat} {day : Int} {L : Nat → Array Value} {n : Int} {i : Nat} (on : Bool) (h : CalIs w g base k day L) (hi : i < k) (hn : N (L i) 0 = n) (hs : N (L i) 25 ≠ 3) :
    Calls Try.prog 29 #[.pointer (some ⟨g, 0, none⟩), .int .u32 n, .bool on] w fun e w' => e = .returned (.int .i64 0) ∧ CalIs w' g base k day (stt L i (if on then 2 else 1)) ∧ Below base w w' ∧ Kv g w w' := by
  obtain ⟨gb, rc, A, hA, hbb, hsz, hkr, hrc, htk⟩ := h.at_row (by omega)
  have ca := Lib.hid (calive_yes h hi hn hA hs)
  have HA := Lib.hid hA
  have HZ := Lib.hid (show i * 27 + 27 ≤ A.size from (hA.2.2 i hi).1)
  have hlt25 : A[i * 27 + 25]? = some (A[i * 27 + 25]'(by have := HZ.out; omega)) := Array.getElem?_eq_getElem _
  obtain ⟨v25, hv25⟩ : ∃ v, A[i * 27 + 25]? = some v := ⟨_, hlt25⟩
  have HF := Lib.hid (fun (s : Int) (hs : 0 ≤ s ∧ s ≤ 255) (w1 : World) (hb1 : Below w.heap.size w w1) => cal_set (L' := stt L i s) (u := .int .u8 s) h hA hbb hsz hkr hrc htk hi (show 25 < 27 by omega) rfl (con_stt h.con hs) (fun r => N_stt r 0 (by decide)) hb1)
  clear h hA hn hs htk hlt25
  cases on
  · go_enter Try.func29, Try.ntmps29
    go_wp2_with ((go_at_call 61; (with_reducible refine (ca.out).mono ?_); rintro e w1 ⟨rfl, hb⟩; have h2 := HA.out.kept hb; have c2 := cellF h2.2.1; have f2 := (cells_of h2.2.1).2.1; clear h2))
    go_ret
    exact ⟨rfl, HF.out 1 (by decide) _ hb⟩
  · go_enter Try.func29, Try.ntmps29
    go_wp2_with ((go_at_call 61; (with_reducible refine (ca.out).mono ?_); rintro e w1 ⟨rfl, hb⟩; have h2 := HA.out.kept hb; have c2 := cellF h2.2.1; have f2 := (cells_of h2.2.1).2.1; clear h2))
    rw [set_twice]
    go_ret
    exact ⟨rfl, HF.out 2 (by decide) _ hb⟩
end Go.Proofs.Ytobokknfpjjdeaa
