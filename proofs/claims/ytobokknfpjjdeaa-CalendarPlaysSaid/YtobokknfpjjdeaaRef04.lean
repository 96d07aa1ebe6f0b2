/- The document's May, IsPrice, IsQty answer the same plain readings. Conditions: the numbers fit their kinds. -/
import Derived.Test.YtobokknfpjjdeaaSpec2
import Derived.Test.YtobokknfpjjdeaaQuiet
namespace Go.Proofs.Ytobokknfpjjdeaa
set_option linter.unusedVariables false
set_option linter.unusedSimpArgs false
open Go.RowKit

/-- how many of the first k shifts are above, below 0 -/
def upN (A : Array Value) : Nat → Nat
  | 0 => 0
  | k + 1 => upN A k + (if 0 < N A (6 + k) then 1 else 0)
def dnN (A : Array Value) : Nat → Nat
  | 0 => 0
  | k + 1 => dnN A k + (if N A (6 + k) < 0 then 1 else 0)
theorem upN_iff (A : Array Value) (k : Nat) : decide (0 < upN A k) = upTo A k ∧ upN A k ≤ k := by
  induction k with
  | zero => exact ⟨by simp [upN, upTo], by simp [upN]⟩
  | succ k ih =>
    obtain ⟨i1, i2⟩ := ih
    refine ⟨?_, by simp only [upN]; split <;> omega⟩
    simp only [upN, upTo, ← i1]
    split <;> rename_i h <;> simp [h]
theorem dnN_iff (A : Array Value) (k : Nat) : decide (0 < dnN A k) = dnTo A k ∧ dnN A k ≤ k := by
  induction k with
  | zero => exact ⟨by simp [dnN, dnTo], by simp [dnN]⟩
  | succ k ih =>
    obtain ⟨i1, i2⟩ := ih
    refine ⟨?_, by simp only [dnN]; split <;> omega⟩
    simp only [dnN, dnTo, ← i1]
    split <;> rename_i h <;> simp [h]
def rhd (A : Array Value) : Bool := (N A 0 != 0) && inB (N A 1) 1 8 && inB (N A 2) 1 10000000 && inB (N A 3) 1 1000000 && inB (N A 4) 0 10000000 && inB (N A 5) 1 10000000 && inB (N A 22) 0 10000000
theorem mayB_rhd (A : Array Value) : mayB A = (rhd A && shTo A 16 && upTo A 16 && dnTo A 16 && prB (N A 2) (N A 24)) := by
  simp only [mayB, rhd]
  cases shTo A 16 <;> cases upTo A 16 <;> cases dnTo A 16 <;> simp

set_option maxHeartbeats 1000000 in
theorem rmay_no (A : Array Value) (w : World) (h : IsSpec A) (hr : rhd A = false) :
    Calls Try.prog 64 #[.agg A] w fun e w' => e = .returned (.bool false) ∧ Below w.heap.size w w' := by
  have hsz := h.size
  obtain ⟨a0, b0, _⟩ := h.c0.u32
  obtain ⟨a1, b1, b1'⟩ := h.c1.u8
  obtain ⟨a2, b2, b2'⟩ := (h.c 2 (by omega) (by omega)).i64
  obtain ⟨a3, b3, b3'⟩ := (h.c 3 (by omega) (by omega)).i64
  obtain ⟨a4, b4, b4'⟩ := (h.c 4 (by omega) (by omega)).i64
  obtain ⟨a5, b5, b5'⟩ := (h.c 5 (by omega) (by omega)).i64
  obtain ⟨a22, b22, b22'⟩ := (h.c 22 (by omega) (by omega)).i64
  obtain ⟨a24, b24, b24'⟩ := h.c24.i64
  have Hsz := Lib.hid hsz
  clear hsz
  have HR := Lib.hid hr
  clear hr
  by_cases q0 : N A 0 = 0
  · have q0' : (N A 0 == 0) = true := by simp [q0]
    have Q0 := Lib.hid q0
    clear q0
    go_enter Try.func64, Try.ntmps64
    go_wp2
    go_ret
    exact ⟨rfl, below_new _ _⟩
  · have q0' : (N A 0 == 0) = false := by simp [q0]
    by_cases q1 : N A 1 < 1
    · go_enter Try.func64, Try.ntmps64
      go_wp2
      go_ret
      exact ⟨rfl, below_new _ _⟩
    · by_cases q2 : 8 < N A 1
      · go_enter Try.func64, Try.ntmps64
        go_wp2
        go_ret
        exact ⟨rfl, below_new _ _⟩
      · have hr2 : (inB (N A 2) 1 10000000 && inB (N A 3) 1 1000000 && inB (N A 4) 0 10000000 && inB (N A 5) 1 10000000 && inB (N A 22) 0 10000000) = false := by
          have := HR.out
          have i1 : inB (N A 1) 1 8 = true := inB_iff.2 ⟨by omega, by omega⟩
          simp only [rhd, i1, show (N A 0 != 0) = true by simp [q0], Bool.true_and] at this
          exact this
        cases t2 : inB (N A 2) 1 10000000
        · clear hr2
          go_enter Try.func64, Try.ntmps64
          go_wp2_with ((go_at_call 82; (with_reducible refine (among_any _ _ _ _).mono ?_); rintro e w' ⟨rfl, rfl⟩))
          go_ret
          exact ⟨rfl, below_new _ _⟩
        · cases t3 : inB (N A 3) 1 1000000
          · clear hr2
            go_enter Try.func64, Try.ntmps64
            go_wp2_with ((go_at_call 82; (with_reducible refine (among_any _ _ _ _).mono ?_); rintro e w' ⟨rfl, rfl⟩))
            go_ret
            exact ⟨rfl, below_new _ _⟩
          · cases t4 : inB (N A 4) 0 10000000
            · clear hr2
              go_enter Try.func64, Try.ntmps64
              go_wp2_with ((go_at_call 82; (with_reducible refine (among_any _ _ _ _).mono ?_); rintro e w' ⟨rfl, rfl⟩))
              go_ret
              exact ⟨rfl, below_new _ _⟩
            · cases t5 : inB (N A 5) 1 10000000
              · clear hr2
                go_enter Try.func64, Try.ntmps64
                go_wp2_with ((go_at_call 82; (with_reducible refine (among_any _ _ _ _).mono ?_); rintro e w' ⟨rfl, rfl⟩))
                go_ret
                exact ⟨rfl, below_new _ _⟩
              · have t6 : inB (N A 22) 0 10000000 = false := by simpa [t2, t3, t4, t5] using hr2
                clear hr2
                go_enter Try.func64, Try.ntmps64
                go_wp2_with ((go_at_call 82; (with_reducible refine (among_any _ _ _ _).mono ?_); rintro e w' ⟨rfl, rfl⟩))
                go_ret
                exact ⟨rfl, below_new _ _⟩

set_option maxHeartbeats 2000000 in
theorem rmay_yes (A : Array Value) (w : World) (h : IsSpec A) (hr : rhd A = true) :
    Calls Try.prog 64 #[.agg A] w fun e w' => e = .returned (.bool (mayB A)) ∧ Below w.heap.size w w' := by
  have hsz := h.size
  obtain ⟨a0, b0, _⟩ := h.c0.u32
  obtain ⟨a1, b1, b1'⟩ := h.c1.u8
  obtain ⟨a2, b2, b2'⟩ := (h.c 2 (by omega) (by omega)).i64
  obtain ⟨a3, b3, b3'⟩ := (h.c 3 (by omega) (by omega)).i64
  obtain ⟨a4, b4, b4'⟩ := (h.c 4 (by omega) (by omega)).i64
  obtain ⟨a5, b5, b5'⟩ := (h.c 5 (by omega) (by omega)).i64
  obtain ⟨a22, b22, b22'⟩ := (h.c 22 (by omega) (by omega)).i64
  obtain ⟨a24, b24, b24'⟩ := h.c24.i64
  have Hsz := Lib.hid hsz
  clear hsz
  have hm := mayB_rhd A
  rw [hr, Bool.true_and] at hm
  have HM := Lib.hid hm
  clear hm
  simp only [rhd, Bool.and_eq_true] at hr
  obtain ⟨⟨⟨⟨⟨⟨q0, t1⟩, t2⟩, t3⟩, t4⟩, t5⟩, t6⟩ := hr
  obtain ⟨q1, q2⟩ := inB_iff.1 t1
  obtain ⟨q3, q4⟩ := inB_iff.1 t2
  have f24 : F64 (N A 24) := h.c24.2
  have q0' : (N A 0 == 0) = false := by simpa using q0
  clear q0 t1
  go_enter Try.func64, Try.ntmps64
  go_wp2_with ((go_at_call 82; (with_reducible refine (among_any _ _ _ _).mono ?_); rintro e w' ⟨rfl, rfl⟩))
  clear t2 t3 t4 t5 t6
  go_loop [3, 4, 5] (fun u d i => ∃ k : Nat, k ≤ 16 ∧ i = .int .i64 k ∧ shTo A k = true ∧ u = .int .i64 (upN A k) ∧ d = .int .i64 (dnN A k)) (fun _ _ i => 16 - (intOf i).toNat)
  case atStart => exact ⟨0, by omega, rfl, rfl, rfl, rfl⟩
  case round =>
    obtain ⟨k, hk, rfl, hs, rfl, rfl⟩ := hrel
    have hu1 := (upN_iff A k).2
    have hd1 := (dnN_iff A k).2
    by_cases hlt : k < 16
    · obtain ⟨ax, e1, e2⟩ := (h.c (6 + k) (by omega) (by omega)).i64
      have hu2 : upN A (k + 1) = upN A k + (if 0 < N A (6 + k) then 1 else 0) := rfl
      have hd2 : dnN A (k + 1) = dnN A k + (if N A (6 + k) < 0 then 1 else 0) := rfl
      have hs2 : shTo A (k + 1) = (shTo A k && inB (N A (6 + k)) (-10000000) 10000000) := rfl
      have H1 := Lib.hid hu2
      have H2 := Lib.hid hd2
      have H3 := Lib.hid hs2
      have Hs := Lib.hid hs
      clear hu2 hd2 hs2 hs
      generalize hx : N A (6 + k) = x at *
      have Hx := Lib.hid hx
      clear hx
      cases hin : inB x (-10000000) 10000000
      · have hfin : mayB A = false := by
          have : shTo A (k + 1) = false := by rw [H3.out, hin]; simp
          have : shTo A 16 = false := by
            rw [Bool.eq_false_iff]; intro h'; rw [shTo_mono h' (by omega)] at this; simp at this
          rw [HM.out, this]; rfl
        have HF := Lib.hid hfin
        clear hfin
        go_wp2_with ((go_at_call 82; (with_reducible refine (among_any _ _ _ _).mono ?_); rintro e w' ⟨rfl, rfl⟩))
        go_ret
        exact ⟨ret_beq HF.out.symm, below_new _ _⟩
      · have hs' : shTo A (k + 1) = true := by rw [H3.out, hin, Hs.out]; rfl
        have HS' := Lib.hid hs'
        clear hs'
        by_cases p1 : 0 < x
        · have p2 : ¬ x < 0 := by omega
          have hu2 := H1.out
          have hd2 := H2.out
          rw [if_pos p1] at hu2
          rw [if_neg p2] at hd2
          have H1 := Lib.hid hu2
          have H2 := Lib.hid hd2
          clear hu2 hd2
          go_wp2_with ((go_at_call 82; (with_reducible refine (among_any _ _ _ _).mono ?_); rintro e w' ⟨rfl, rfl⟩))
          go_round
          case rel => exact ⟨k + 1, by omega, by go_num, HS'.out, by rw [H1.out]; go_num, by rw [H2.out]; rfl⟩
          case measure => simp [intOf]; omega
        · by_cases p2 : x < 0
          · have hu2 := H1.out
            have hd2 := H2.out
            rw [if_neg p1] at hu2
            rw [if_pos p2] at hd2
            have H1 := Lib.hid hu2
            have H2 := Lib.hid hd2
            clear hu2 hd2
            go_wp2_with ((go_at_call 82; (with_reducible refine (among_any _ _ _ _).mono ?_); rintro e w' ⟨rfl, rfl⟩))
            go_round
            case rel => exact ⟨k + 1, by omega, by go_num, HS'.out, by rw [H1.out]; rfl, by rw [H2.out]; go_num⟩
            case measure => simp [intOf]; omega
          · have hu2 := H1.out
            have hd2 := H2.out
            rw [if_neg p1] at hu2
            rw [if_neg p2] at hd2
            have H1 := Lib.hid hu2
            have H2 := Lib.hid hd2
            clear hu2 hd2
            go_wp2_with ((go_at_call 82; (with_reducible refine (among_any _ _ _ _).mono ?_); rintro e w' ⟨rfl, rfl⟩))
            go_round
            case rel => exact ⟨k + 1, by omega, by go_num, HS'.out, by rw [H1.out]; rfl, by rw [H2.out]; rfl⟩
            case measure => simp [intOf]; omega
    · obtain rfl : k = 16 := by omega
      have hm := HM.out
      rw [hs, ← (upN_iff A 16).1, ← (dnN_iff A 16).1, Bool.true_and] at hm
      have HM := Lib.hid hm
      clear hm hs
      generalize hu : upN A 16 = u at *
      generalize hd : dnN A 16 = d at *
      clear hu hd
      by_cases p1 : 0 < u
      · by_cases p2 : 0 < d
        · go_wp2_with ((go_at_call 83; (with_reducible refine (rprice_any _ _ _ (by omega) (by omega) f24).mono ?_); rintro e w' ⟨rfl, rfl⟩))
          go_ret
          exact ⟨ret_beq (by rw [HM.out]; simp [p1, p2]), below_new _ _⟩
        · go_wp2_with fail
          go_ret
          exact ⟨ret_beq (by rw [HM.out]; simp; omega), below_new _ _⟩
      · go_wp2_with fail
        go_ret
        exact ⟨ret_beq (by rw [HM.out]; simp; omega), below_new _ _⟩

theorem rmay_any (A : Array Value) (w : World) (h : IsSpec A) :
    Calls Try.prog 64 #[.agg A] w fun e w' => e = .returned (.bool (mayB A)) ∧ Below w.heap.size w w' := by
  cases hr : rhd A
  · have hm : mayB A = false := by rw [mayB_rhd, hr]; rfl
    rw [hm]
    exact rmay_no A w h hr
  · exact rmay_yes A w h hr

set_option maxHeartbeats 400000 in
theorem risprice_any (A : Array Value) (n : Int) (w : World) (h : IsSpec A) (hn : F64 n) :
    Calls Try.prog 65 #[.agg A, .int .i64 n] w fun e w' => e = .returned (.bool (ipB A n)) ∧ Below w.heap.size w w' := by
  have Hsz := Lib.hid h.size
  obtain ⟨a2, b2, b2'⟩ := (h.c 2 (by omega) (by omega)).i64
  cases hm : mayB A
  · have HM := Lib.hid hm
    go_enter Try.func65, Try.ntmps65
    go_wp2_with (first | ((with_reducible refine at_load 61 ?_); refine wpList_load_part rfl 61 _ rfl (w.heap.size) (0) rfl _ (A) _ _ 25 (heap_alloc_new _ _) Try.underlying61 rfl (by kernel_rfl) (by rw [Hsz.out]; omega) (A) (extract_all Hsz.out) ?_) | (go_at_call 64; (with_reducible refine (rmay_any _ _ h).mono ?_); rintro e w1 ⟨rfl, hb⟩; have hg := kept hb (heap_alloc_new _ _); have hc := (cells_of hg).1))
    go_ret
    exact ⟨ret_beq (by simp [ipB, HM.out]), below_then (below_new _ _) hb⟩
  · have HM := Lib.hid hm
    obtain ⟨t1, t2⟩ := (mayB_facts hm).1
    go_enter Try.func65, Try.ntmps65
    go_wp2_with (first | ((with_reducible refine at_load 61 ?_); refine wpList_load_part rfl 61 _ rfl (w.heap.size) (0) rfl _ (A) _ _ 25 (heap_alloc_new _ _) Try.underlying61 rfl (by kernel_rfl) (by rw [Hsz.out]; omega) (A) (extract_all Hsz.out) ?_) | (go_at_call 64; (with_reducible refine (rmay_any _ _ h).mono ?_); rintro e w1 ⟨rfl, hb⟩; have hg := kept hb (heap_alloc_new _ _); have hc := (cells_of hg).1) | (go_at_call 83; (with_reducible refine (rprice_any _ _ _ (by omega) (by omega) hn).mono ?_); rintro e w' ⟨rfl, rfl⟩))
    go_ret
    exact ⟨ret_beq (by simp [ipB, HM.out]), below_then (below_new _ _) hb⟩

end Go.Proofs.Ytobokknfpjjdeaa
