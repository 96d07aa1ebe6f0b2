/- A stake's worst case and whether an order may be: expose's, side's and the document's. Condition: the numbers fit their kinds. -/
import Derived.Test.YtnpjclodcgejgaaStake
import Derived.Test.YtnpjclodcgejgaaRefM
namespace Go.Proofs.Ytnpjclodcgejgaa
set_option linter.unusedVariables false
set_option linter.unusedSimpArgs false
open Go.RowKit

theorem IsN.u64 {A : Array Value} {i : Nat} (h : IsN A .u64 i) : A[i]? = some (.int .u64 (N A i)) ∧ 0 ≤ N A i ∧ N A i ≤ 18446744073709551615 := h

set_option maxHeartbeats 1000000 in
theorem omay_any (A : Array Value) (w : World) (h : IsOrd A) :
    Calls Try.prog 44 #[.agg A] w fun e w' => e = .returned (.bool (okO A)) ∧ Below w.heap.size w w' := by
  have hsz := h.size
  obtain ⟨a0, b0, b0'⟩ := h.n.u64
  obtain ⟨a1, b1, b1'⟩ := h.a.u32
  obtain ⟨a3, b3, b3'⟩ := h.p.i64
  obtain ⟨a4, b4, b4'⟩ := h.l.i64
  have HF := Lib.hid (show okO A = (!decide (N A 0 = 0) && !decide (N A 1 = 0) && inB (N A 3) 1 10000000 && inB (N A 4) 1 1000000) from rfl)
  have Hsz := Lib.hid hsz
  clear hsz h
  generalize okO A = ok at *
  generalize N A 0 = x0 at *
  generalize N A 1 = x1 at *
  generalize N A 3 = x3 at *
  generalize N A 4 = x4 at *
  by_cases q0 : x0 = 0
  · have q0' : (x0 != 0) = false := by simp [q0]
    have HX := Lib.hid (show ok = false by rw [HF.out]; simp [q0])
    go_enter Try.func44, Try.ntmps44
    go_wp2
    go_ret
    exact ⟨ret_beq (by first | exact HX.out.symm | (rw [HX.out]; simp [*]; done) | (rw [HX.out]; simp [*]; omega)), below_new _ _⟩
  · have q0' : (x0 != 0) = true := by simp [q0]
    by_cases q1 : x1 = 0
    · have q1' : (x1 != 0) = false := by simp [q1]
      have HX := Lib.hid (show ok = false by rw [HF.out]; simp [q1])
      go_enter Try.func44, Try.ntmps44
      go_wp2
      go_ret
      exact ⟨ret_beq (by first | exact HX.out.symm | (rw [HX.out]; simp [*]; done) | (rw [HX.out]; simp [*]; omega)), below_new _ _⟩
    · have q1' : (x1 != 0) = true := by simp [q1]
      by_cases p1 : x3 < 1
      · have HX := Lib.hid (show ok = false by rw [HF.out, inB_no.2 (by omega)]; simp)
        go_enter Try.func44, Try.ntmps44
        go_wp2
        go_ret
        exact ⟨ret_beq (by first | exact HX.out.symm | (rw [HX.out]; simp [*]; done) | (rw [HX.out]; simp [*]; omega)), below_new _ _⟩
      · by_cases p2 : 10000000 < x3
        · have HX := Lib.hid (show ok = false by rw [HF.out, inB_no.2 (by omega)]; simp)
          go_enter Try.func44, Try.ntmps44
          go_wp2
          go_ret
          exact ⟨ret_beq (by first | exact HX.out.symm | (rw [HX.out]; simp [*]; done) | (rw [HX.out]; simp [*]; omega)), below_new _ _⟩
        · by_cases l1 : x4 < 1
          · have HX := Lib.hid (show ok = false by rw [HF.out, show inB x4 1 1000000 = false from inB_no.2 (by omega)]; simp)
            go_enter Try.func44, Try.ntmps44
            go_wp2
            go_ret
            exact ⟨ret_beq (by first | exact HX.out.symm | (rw [HX.out]; simp [*]; done) | (rw [HX.out]; simp [*]; omega)), below_new _ _⟩
          · by_cases l2 : 1000000 < x4
            · have HX := Lib.hid (show ok = false by rw [HF.out, show inB x4 1 1000000 = false from inB_no.2 (by omega)]; simp)
              go_enter Try.func44, Try.ntmps44
              go_wp2
              go_ret
              exact ⟨ret_beq (by first | exact HX.out.symm | (rw [HX.out]; simp [*]; done) | (rw [HX.out]; simp [*]; omega)), below_new _ _⟩
            · have HX := Lib.hid (show ok = true by rw [HF.out, inB_iff.2 (show 1 ≤ x3 ∧ x3 ≤ 10000000 by omega), inB_iff.2 (show 1 ≤ x4 ∧ x4 ≤ 1000000 by omega)]; simp [q0, q1])
              go_enter Try.func44, Try.ntmps44
              go_wp2
              go_ret
              exact ⟨ret_beq (by first | exact HX.out.symm | (rw [HX.out]; simp [*]; done) | (rw [HX.out]; simp [*]; omega)), below_new _ _⟩
set_option maxHeartbeats 1000000 in
theorem romay_any (A : Array Value) (w : World) (h : IsOrd A) :
    Calls Try.prog 40 #[.agg A] w fun e w' => e = .returned (.bool (okO A)) ∧ Below w.heap.size w w' := by
  have hsz := h.size
  obtain ⟨a0, b0, b0'⟩ := h.n.u64
  obtain ⟨a1, b1, b1'⟩ := h.a.u32
  obtain ⟨a3, b3, b3'⟩ := h.p.i64
  obtain ⟨a4, b4, b4'⟩ := h.l.i64
  have HF := Lib.hid (show okO A = (!decide (N A 0 = 0) && !decide (N A 1 = 0) && inB (N A 3) 1 10000000 && inB (N A 4) 1 1000000) from rfl)
  have Hsz := Lib.hid hsz
  clear hsz h
  generalize okO A = ok at *
  generalize N A 0 = x0 at *
  generalize N A 1 = x1 at *
  generalize N A 3 = x3 at *
  generalize N A 4 = x4 at *
  by_cases q0 : x0 = 0
  · have HX := Lib.hid (show ok = false by rw [HF.out]; simp [q0])
    go_enter Try.func40, Try.ntmps40
    go_wp2
    go_ret
    exact ⟨ret_beq (by first | exact HX.out.symm | (rw [HX.out]; simp [*]; done) | (rw [HX.out]; simp [*]; omega)), below_new _ _⟩
  · by_cases q1 : x1 = 0
    · have HX := Lib.hid (show ok = false by rw [HF.out]; simp [q1])
      go_enter Try.func40, Try.ntmps40
      go_wp2
      go_ret
      exact ⟨ret_beq (by first | exact HX.out.symm | (rw [HX.out]; simp [*]; done) | (rw [HX.out]; simp [*]; omega)), below_new _ _⟩
    · by_cases p1 : x3 < 1
      · have HX := Lib.hid (show ok = false by rw [HF.out, inB_no.2 (by omega)]; simp)
        go_enter Try.func40, Try.ntmps40
        go_wp2
        go_ret
        exact ⟨ret_beq (by first | exact HX.out.symm | (rw [HX.out]; simp [*]; done) | (rw [HX.out]; simp [*]; omega)), below_new _ _⟩
      · by_cases p2 : 10000000 < x3
        · have HX := Lib.hid (show ok = false by rw [HF.out, inB_no.2 (by omega)]; simp)
          go_enter Try.func40, Try.ntmps40
          go_wp2
          go_ret
          exact ⟨ret_beq (by first | exact HX.out.symm | (rw [HX.out]; simp [*]; done) | (rw [HX.out]; simp [*]; omega)), below_new _ _⟩
        · by_cases l1 : x4 < 1
          · have HX := Lib.hid (show ok = false by rw [HF.out, show inB x4 1 1000000 = false from inB_no.2 (by omega)]; simp)
            go_enter Try.func40, Try.ntmps40
            go_wp2
            go_ret
            exact ⟨ret_beq (by first | exact HX.out.symm | (rw [HX.out]; simp [*]; done) | (rw [HX.out]; simp [*]; omega)), below_new _ _⟩
          · by_cases l2 : 1000000 < x4
            · have HX := Lib.hid (show ok = false by rw [HF.out, show inB x4 1 1000000 = false from inB_no.2 (by omega)]; simp)
              go_enter Try.func40, Try.ntmps40
              go_wp2
              go_ret
              exact ⟨ret_beq (by first | exact HX.out.symm | (rw [HX.out]; simp [*]; done) | (rw [HX.out]; simp [*]; omega)), below_new _ _⟩
            · have HX := Lib.hid (show ok = true by rw [HF.out, inB_iff.2 (show 1 ≤ x3 ∧ x3 ≤ 10000000 by omega), inB_iff.2 (show 1 ≤ x4 ∧ x4 ≤ 1000000 by omega)]; simp [q0, q1])
              go_enter Try.func40, Try.ntmps40
              go_wp2
              go_ret
              exact ⟨ret_beq (by first | exact HX.out.symm | (rw [HX.out]; simp [*]; done) | (rw [HX.out]; simp [*]; omega)), below_new _ _⟩

theorem stk_sh {A : Array Value} (h : IsStk A) : IsSh (A.extract 6 22) := by
  have h1 := ls_sh (L := fun _ => A.extract 0 26) (i := 0) h.leg
  rw [show ls (fun _ => A.extract 0 26) 0 = A.extract 6 22 by unfold ls; rw [Array.extract_extract]; congr 1] at h1
  exact h1
theorem stk_at {A : Array Value} {v : Value} {i : Nat} (hs : A.size = 29) (hi : i < 26) (h : (A.extract 0 26)[i]? = some v) : A[i]? = some v := by
  rw [Array.getElem?_extract, if_pos (by omega), Nat.zero_add] at h
  exact h
theorem stk_N {A : Array Value} (hs : A.size = 29) {i : Nat} (hi : i < 26) : N (A.extract 0 26) i = N A i := by
  rw [N_extract (by omega) (by omega), Nat.zero_add]
theorem IsStk.q {A : Array Value} (h : IsStk A) : IsN A .i64 25 := by
  have h1 := h.leg.q
  refine ⟨stk_at h.size (by omega) (by rw [h1.1, stk_N h.size (by omega)]), ?_⟩
  have := h1.2
  rw [stk_N h.size (by omega)] at this
  exact this
theorem IsStk.all {A : Array Value} (h : IsStk A) : A.all (·.oneCell') = true := all_one fun i v hv => by
  have hi : i < 29 := by have := (Array.getElem?_eq_some_iff.1 hv).1; have := h.size; omega
  by_cases h26 : i < 26
  · have h1 := h.leg.all
    have h2 : (A.extract 0 26)[i]? = some v := by rw [Array.getElem?_extract, if_pos (by have := h.size; omega), Nat.zero_add]; exact hv
    rw [Array.all_eq_true] at h1
    have hlt : i < (A.extract 0 26).size := (Array.getElem?_eq_some_iff.1 h2).1
    have h3 := h1 i hlt
    rw [(Array.getElem?_eq_some_iff.1 h2).2] at h3
    exact h3
  · have : i = 26 ∨ i = 27 ∨ i = 28 := by omega
    rcases this with rfl | rfl | rfl
    · exact h.b.one hv
    · exact h.p.one hv
    · obtain ⟨a, n, c, h1⟩ := h.s
      rw [h1] at hv; injection hv with hv; subst hv; rfl

set_option maxHeartbeats 1000000 in
theorem at_any (A : Array Value) (g : Nat) (t : TypeId) (fr : Nat × Nat) (q : Int) (w : World) (hg : w.heap[g]? = some (.cells A t fr)) (h : IsStk A) (hs : swTo (A.extract 6 22) 16 = true) (hq : -1000000000 ≤ q ∧ q ≤ 1000000000) :
    Calls Try.prog 46 #[.int .i64 q, .pointer (some ⟨g, 0, none⟩)] w fun e w' => e = .returned (.int .i64 (wk (A.extract 6 22) q 16)) ∧ Below w.heap.size w w' := by
  have cs := fun w => scan_any (A.extract 6 22) q w (stk_sh h) (by unfold F64; omega)
  have e1 : scN (A.extract 6 22) q = wk (A.extract 6 22) q 16 := by unfold scN; rw [hs, inB_iff.2 hq]; rfl
  rw [e1] at cs
  have Hsz := Lib.hid h.size
  generalize scE (A.extract 6 22) q = ee at *
  generalize wk (A.extract 6 22) q 16 = n at *
  clear h hs e1
  go_enter Try.func46, Try.ntmps46
  go_wp2_with (first | ((with_reducible refine at_load 26 ?_); refine wpList_load_part rfl 26 _ rfl (g) (6) rfl _ (A) _ _ 16 (hg) Try.underlying26 rfl (by kernel_rfl) (by rw [Hsz.out]; omega) (A.extract 6 22) (rfl) ?_) | (go_at_call 18; (with_reducible refine (cs _).mono ?_); rintro e w1 ⟨rfl, hb1⟩))
  go_ret
  exact ⟨rfl, hb1⟩
end Go.Proofs.Ytnpjclodcgejgaa
