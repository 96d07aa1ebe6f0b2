/- settle's may: what it answers. Condition: the numbers fit their kinds. -/
import Derived.Test.YticdcdahehodkaaDue
import Derived.Test.YticdcdahehodkaaSmall
import Derived.Test.YticdcdahehodkaaFrm
namespace Go.Proofs.Yticdcdahehodkaa
set_option linter.unusedVariables false
set_option linter.unusedSimpArgs false
open Go.RowKit

/-- dues that may be settled, but for the fund and the sum -/
def dmay (A C V : Nat → Int) : Nat → Bool
  | 0 => true
  | k + 1 => dmay A C V k && (decide ((if k = 0 then 0 else A (k - 1)) < A k) && (inB (C k) 0 1000000000000000 && inB (V k) (-100000000000000000) 100000000000000000))
theorem dmay_le {A C V : Nat → Int} : ∀ n, dmay A C V n = true → ∀ k, k ≤ n → dmay A C V k = true
  | 0, _, k, hk => by rw [Nat.le_zero.1 hk]; rfl
  | n + 1, h, k, hk => by
    by_cases e : k = n + 1
    · subst e; exact h
    · have h2 : (dmay A C V n && (decide ((if n = 0 then 0 else A (n - 1)) < A n) && (inB (C n) 0 1000000000000000 && inB (V n) (-100000000000000000) 100000000000000000))) = true := h
      rw [Bool.and_eq_true] at h2
      exact dmay_le n h2.1 k (by omega)
def dOk (A C V : Nat → Int) (k : Nat) : Prop := (if k = 0 then 0 else A (k - 1)) < A k ∧ (0 ≤ C k ∧ C k ≤ 1000000000000000) ∧ (-100000000000000000 ≤ V k ∧ V k ≤ 100000000000000000)
theorem dmay_at {A C V : Nat → Int} {n k : Nat} (h : dmay A C V n = true) (hk : k < n) : dOk A C V k := by
  have h2 : (dmay A C V k && (decide ((if k = 0 then 0 else A (k - 1)) < A k) && (inB (C k) 0 1000000000000000 && inB (V k) (-100000000000000000) 100000000000000000))) = true := dmay_le n h (k + 1) (by omega)
  rw [Bool.and_eq_true, Bool.and_eq_true, Bool.and_eq_true, decide_eq_true_iff] at h2
  exact ⟨h2.2.1, inB_iff.1 h2.2.2.1, inB_iff.1 h2.2.2.2⟩
theorem dmay_no {A C V : Nat → Int} {k : Nat} : ∀ n, k < n → ¬ dOk A C V k → dmay A C V n = false := fun n hk h => by
  rw [Bool.eq_false_iff]; intro ht; exact h (dmay_at ht hk)
theorem dmay_next {A C V : Nat → Int} {k : Nat} (h : dmay A C V k = true) (h2 : dOk A C V k) : dmay A C V (k + 1) = true := by
  show (dmay A C V k && (decide ((if k = 0 then 0 else A (k - 1)) < A k) && (inB (C k) 0 1000000000000000 && inB (V k) (-100000000000000000) 100000000000000000))) = true
  rw [h, decide_eq_true h2.1, inB_iff.2 h2.2.1, inB_iff.2 h2.2.2]; rfl

set_option maxHeartbeats 1000000 in
theorem funds_any (x : Int) (w : World) :
    Calls Try.prog 42 #[.int .i64 x] w fun e w' => e = .returned (.bool (inB x 0 1000000000000000)) ∧ w = w' := by
  by_cases h : 0 ≤ x
  · go_enter Try.func42, Try.ntmps42
    go_wp2
    go_ret
    exact ⟨ret_bool (by simp [inB]; omega), rfl⟩
  · go_enter Try.func42, Try.ntmps42
    go_wp2
    go_ret
    exact ⟨ret_bool (by simp [inB]; omega), rfl⟩

set_option maxRecDepth 100000 in
set_option maxHeartbeats 4000000 in
theorem smay_any (fund : Int) (a : Option Addr) (n cap : Nat) (A C V : Nat → Int) (w : World) (hb : ∀ i, (0 ≤ A i ∧ A i ≤ 4294967295) ∧ F64 (C i) ∧ F64 (V i)) (hA : Dues w a n A C V) (hn : n ≤ 64) :
    Calls Try.prog 25 #[.int .i64 fund, .slice a n cap] w fun e w' => e = .returned (.bool (dmay A C V n && inB fund 0 1000000000000000)) ∧ Below w.heap.size w w' := by
  have HA := Lib.hid hA
  have HB := Lib.hid hb
  clear hA hb
  go_enter Try.func25, Try.ntmps25
  go_wp2
  go_loopg [6, 11] n (fun gh v6 vi wr => ∃ k : Nat, k ≤ n ∧ gh = n - k ∧ vi = .int .i64 k ∧ v6 = .int .u32 (if k = 0 then 0 else A (k - 1)) ∧ dmay A C V k = true ∧ Below w.heap.size w wr)
  case atStart => exact ⟨0, by omega, by omega, rfl, rfl, rfl, Below.refl _ _⟩
  case round =>
    obtain ⟨k, hk, rfl, rfl, rfl, hm, hbw⟩ := hrel
    have HM := Lib.hid hm
    have HW := Lib.hid hbw
    clear hm hbw
    obtain ⟨l, hl⟩ : ∃ l, l = (if k = 0 then 0 else A (k - 1)) := ⟨_, rfl⟩
    rw [← hl]
    by_cases hlt : k < n
    · obtain ⟨g, off, B, t, fr, rfl, hg, hs, he, c0, c1, c2⟩ := (HA.out.kept HW.out).at hlt
      have hki : (k : Int) < n := by omega
      have HBK := Lib.hid (HB.out k)
      have HNO := Lib.hid (fun (h : ¬ (l < A k ∧ (0 ≤ C k ∧ C k ≤ 1000000000000000) ∧ (-100000000000000000 ≤ V k ∧ V k ≤ 100000000000000000))) => dmay_no (A := A) (C := C) (V := V) n hlt (by unfold dOk; rw [← hl]; exact h))
      have HYES := Lib.hid (show l < A k ∧ (0 ≤ C k ∧ C k ≤ 1000000000000000) ∧ (-100000000000000000 ≤ V k ∧ V k ≤ 100000000000000000) → dmay A C V (k + 1) = true from fun h => dmay_next HM.out (by unfold dOk; rw [← hl]; exact h))
      have HNX := Lib.hid (show (if k + 1 = 0 then 0 else A (k + 1 - 1)) = A k from by rw [if_neg (by omega)]; rfl)
      have cw := fun w => within_any (V k) 100000000000000000 w HBK.out.2.2 (by omega) (by omega)
      have cf := fun w => funds_any (C k) w
      generalize A k = x at *
      generalize C k = c at *
      generalize V k = v at *
      have e0 := dA_0 x c v
      have e1 := dA_1 x c v
      have e2 := dA_2 x c v
      clear hl c0 c1 c2
      by_cases h1 : x ≤ l
      · have hf := HNO.out (by omega)
        go_wp2_with (first | ((with_reducible refine at_load 39 ?_); refine wpList_load_part rfl 39 _ rfl (g) (off + k * 3) rfl _ (B) _ _ 3 (hg) Try.underlying39 rfl (by kernel_rfl) (hs) (dA x c v) (he) ?_) | ((with_reducible refine at_alloc 39 ?_); refine wpList_alloc_named rfl 39 rfl (dA 0 0 0) (by kernel_rfl) ?_) | ((with_reducible refine at_store 39 ?_); refine wpList_store_new rfl 39 _ _ rfl (dA x c v) _ _ _ rfl (by simp) rfl (by rw [dA_size _ _ _]; kernel_rfl) (by rw [dA_size _ _ _]; rfl) (dA_all _ _ _) ?_))
        go_ret
        exact ⟨by rw [hf]; rfl, below_alloc HW.out _⟩
      · obtain ⟨b, hb⟩ : ∃ b, b = inB c 0 1000000000000000 := ⟨_, rfl⟩
        rw [← hb] at cf
        cases b
        · have hf := HNO.out (fun h => by have := inB_iff.2 h.2.1; rw [← hb] at this; cases this)
          clear hb cw
          go_wp2_with (first | ((with_reducible refine at_load 39 ?_); refine wpList_load_part rfl 39 _ rfl (g) (off + k * 3) rfl _ (B) _ _ 3 (hg) Try.underlying39 rfl (by kernel_rfl) (hs) (dA x c v) (he) ?_) | ((with_reducible refine at_alloc 39 ?_); refine wpList_alloc_named rfl 39 rfl (dA 0 0 0) (by kernel_rfl) ?_) | ((with_reducible refine at_store 39 ?_); refine wpList_store_new rfl 39 _ _ rfl (dA x c v) _ _ _ rfl (by simp) rfl (by rw [dA_size _ _ _]; kernel_rfl) (by rw [dA_size _ _ _]; rfl) (dA_all _ _ _) ?_) | (go_at_call 42; (with_reducible refine (cf _).mono ?_); rintro e w1 ⟨rfl, rfl⟩))
          go_ret
          exact ⟨by rw [hf]; rfl, below_alloc HW.out _⟩
        · obtain ⟨b2, hb2⟩ : ∃ b, b = inB v (-100000000000000000) 100000000000000000 := ⟨_, rfl⟩
          rw [← hb2] at cw
          cases b2
          · have hf := HNO.out (fun h => by have := inB_iff.2 h.2.2; rw [← hb2] at this; cases this)
            clear hb hb2
            go_wp2_with (first | ((with_reducible refine at_load 39 ?_); refine wpList_load_part rfl 39 _ rfl (g) (off + k * 3) rfl _ (B) _ _ 3 (hg) Try.underlying39 rfl (by kernel_rfl) (hs) (dA x c v) (he) ?_) | ((with_reducible refine at_alloc 39 ?_); refine wpList_alloc_named rfl 39 rfl (dA 0 0 0) (by kernel_rfl) ?_) | ((with_reducible refine at_store 39 ?_); refine wpList_store_new rfl 39 _ _ rfl (dA x c v) _ _ _ rfl (by simp) rfl (by rw [dA_size _ _ _]; kernel_rfl) (by rw [dA_size _ _ _]; rfl) (dA_all _ _ _) ?_) | (go_at_call 42; (with_reducible refine (cf _).mono ?_); rintro e w1 ⟨rfl, rfl⟩) | (go_at_call 19; (with_reducible refine (cw _).mono ?_); rintro e w1 ⟨rfl, rfl⟩))
            go_ret
            exact ⟨by rw [hf]; rfl, below_alloc HW.out _⟩
          · have hy := Lib.hid (HYES.out ⟨by omega, inB_iff.1 hb.symm, inB_iff.1 hb2.symm⟩)
            clear hb hb2
            go_wp2_with (first | ((with_reducible refine at_load 39 ?_); refine wpList_load_part rfl 39 _ rfl (g) (off + k * 3) rfl _ (B) _ _ 3 (hg) Try.underlying39 rfl (by kernel_rfl) (hs) (dA x c v) (he) ?_) | ((with_reducible refine at_alloc 39 ?_); refine wpList_alloc_named rfl 39 rfl (dA 0 0 0) (by kernel_rfl) ?_) | ((with_reducible refine at_store 39 ?_); refine wpList_store_new rfl 39 _ _ rfl (dA x c v) _ _ _ rfl (by simp) rfl (by rw [dA_size _ _ _]; kernel_rfl) (by rw [dA_size _ _ _]; rfl) (dA_all _ _ _) ?_) | (go_at_call 42; (with_reducible refine (cf _).mono ?_); rintro e w1 ⟨rfl, rfl⟩) | (go_at_call 19; (with_reducible refine (cw _).mono ?_); rintro e w1 ⟨rfl, rfl⟩))
            go_roundg (n - (k + 1))
            case measure => omega
            case rel => exact ⟨k + 1, by omega, rfl, by go_num, by rw [HNX.out], hy.out, below_alloc HW.out _⟩
    · obtain rfl : k = n := by omega
      have cf := fun w => funds_any fund w
      clear hl
      go_wp2_with (first | (go_at_call 42; (with_reducible refine (cf _).mono ?_); rintro e w1 ⟨rfl, rfl⟩))
      go_ret
      exact ⟨by rw [HM.out]; rfl, HW.out⟩
end Go.Proofs.Yticdcdahehodkaa
