/- tearup's may and its two closures: what they answer. Condition: the numbers fit their kinds. -/
import Derived.Test.YticdcdahehodkaaHold
import Derived.Test.YticdcdahehodkaaSmall
import Derived.Test.YticdcdahehodkaaFrm
namespace Go.Proofs.Yticdcdahehodkaa
set_option linter.unusedVariables false
set_option linter.unusedSimpArgs false
open Go.RowKit

/-- holders that may be -/
def hmay (A Q : Nat → Int) : Nat → Bool
  | 0 => true
  | k + 1 => hmay A Q k && (decide ((if k = 0 then 0 else A (k - 1)) < A k) && inB (Q k) (-10000000) 10000000)
theorem hmay_le {A Q : Nat → Int} : ∀ n, hmay A Q n = true → ∀ k, k ≤ n → hmay A Q k = true
  | 0, _, k, hk => by rw [Nat.le_zero.1 hk]; rfl
  | n + 1, h, k, hk => by
    by_cases e : k = n + 1
    · subst e; exact h
    · have h2 : (hmay A Q n && (decide ((if n = 0 then 0 else A (n - 1)) < A n) && inB (Q n) (-10000000) 10000000)) = true := h
      rw [Bool.and_eq_true] at h2
      exact hmay_le n h2.1 k (by omega)
theorem hmay_at {A Q : Nat → Int} {n k : Nat} (h : hmay A Q n = true) (hk : k < n) : (if k = 0 then 0 else A (k - 1)) < A k ∧ -10000000 ≤ Q k ∧ Q k ≤ 10000000 := by
  have h2 : (hmay A Q k && (decide ((if k = 0 then 0 else A (k - 1)) < A k) && inB (Q k) (-10000000) 10000000)) = true := hmay_le n h (k + 1) (by omega)
  rw [Bool.and_eq_true, Bool.and_eq_true, decide_eq_true_iff] at h2
  exact ⟨h2.2.1, inB_iff.1 h2.2.2⟩
theorem hmay_no {A Q : Nat → Int} {k : Nat} : ∀ n, k < n → ¬ ((if k = 0 then 0 else A (k - 1)) < A k ∧ -10000000 ≤ Q k ∧ Q k ≤ 10000000) → hmay A Q n = false := fun n hk h => by
  rw [Bool.eq_false_iff]; intro ht; exact h (hmay_at ht hk)

set_option maxRecDepth 100000 in
set_option maxHeartbeats 2000000 in
theorem tmay_any (a : Option Addr) (n cap : Nat) (A Q : Nat → Int) (w : World) (hb : ∀ i, (0 ≤ A i ∧ A i ≤ 4294967295) ∧ F64 (Q i)) (hA : Holds w a n A Q) (hn : n ≤ 64) :
    Calls Try.prog 20 #[.slice a n cap] w fun e w' => e = .returned (.bool (hmay A Q n)) ∧ Below w.heap.size w w' := by
  have HA := Lib.hid hA
  have HB := Lib.hid hb
  clear hA hb
  go_enter Try.func20, Try.ntmps20
  go_wp2
  go_loopg [3, 8] n (fun gh v3 vi wr => ∃ k : Nat, k ≤ n ∧ gh = n - k ∧ vi = .int .i64 k ∧ v3 = .int .u32 (if k = 0 then 0 else A (k - 1)) ∧ hmay A Q k = true ∧ Below w.heap.size w wr)
  case atStart => exact ⟨0, by omega, by omega, rfl, rfl, rfl, Below.refl _ _⟩
  case round =>
    obtain ⟨k, hk, rfl, rfl, rfl, hm, hbw⟩ := hrel
    have HM := Lib.hid hm
    have HW := Lib.hid hbw
    clear hm hbw
    obtain ⟨l, hl⟩ : ∃ l, l = (if k = 0 then 0 else A (k - 1)) := ⟨_, rfl⟩
    rw [← hl]
    by_cases hlt : k < n
    · obtain ⟨g, off, B, t, fr, rfl, hg, hs, he, c0, c1⟩ := (HA.out.kept HW.out).at hlt
      have hki : (k : Int) < n := by omega
      have HBK := Lib.hid (HB.out k)
      have HNO := Lib.hid (fun (h : ¬ ((if k = 0 then 0 else A (k - 1)) < A k ∧ -10000000 ≤ Q k ∧ Q k ≤ 10000000)) => hmay_no (A := A) (Q := Q) n hlt h)
      have HYES := Lib.hid (show (if k = 0 then 0 else A (k - 1)) < A k ∧ -10000000 ≤ Q k ∧ Q k ≤ 10000000 → hmay A Q (k + 1) = true from fun h => by
        show (hmay A Q k && (decide ((if k = 0 then 0 else A (k - 1)) < A k) && inB (Q k) (-10000000) 10000000)) = true
        rw [HM.out, decide_eq_true h.1, inB_iff.2 h.2]; rfl)
      have HNX := Lib.hid (show (if k + 1 = 0 then 0 else A (k + 1 - 1)) = A k from by rw [if_neg (by omega)]; rfl)
      rw [← hl] at HNO HYES
      have cw := fun w => within_any (Q k) 10000000 w HBK.out.2 (by omega) (by omega)
      generalize A k = x at *
      generalize Q k = q at *
      clear hl
      have e0 := hA_0 x q
      have e1 := hA_1 x q
      by_cases h1 : x ≤ l
      · have hf := HNO.out (by omega)
        go_wp2_with (first | ((with_reducible refine at_load 32 ?_); refine wpList_load_part rfl 32 _ rfl (g) (off + k * 2) rfl _ (B) _ _ 2 (hg) Try.underlying32 rfl (by kernel_rfl) (hs) (hA x q) (he) ?_) | ((with_reducible refine at_alloc 32 ?_); refine wpList_alloc_named rfl 32 rfl (hA 0 0) (by kernel_rfl) ?_) | ((with_reducible refine at_store 32 ?_); refine wpList_store_new rfl 32 _ _ rfl (hA x q) _ _ _ rfl (by simp) rfl (by rw [hA_size _ _]; kernel_rfl) (by rw [hA_size _ _]; rfl) (hA_all _ _) ?_))
        go_ret
        exact ⟨by rw [hf]; rfl, below_alloc HW.out _⟩
      · obtain ⟨b, hb⟩ : ∃ b, b = inB q (-10000000) 10000000 := ⟨_, rfl⟩
        rw [← hb] at cw
        cases b
        · have hf := HNO.out (fun h => by have := inB_iff.2 h.2; rw [← hb] at this; cases this)
          clear hb
          go_wp2_with (first | ((with_reducible refine at_load 32 ?_); refine wpList_load_part rfl 32 _ rfl (g) (off + k * 2) rfl _ (B) _ _ 2 (hg) Try.underlying32 rfl (by kernel_rfl) (hs) (hA x q) (he) ?_) | ((with_reducible refine at_alloc 32 ?_); refine wpList_alloc_named rfl 32 rfl (hA 0 0) (by kernel_rfl) ?_) | ((with_reducible refine at_store 32 ?_); refine wpList_store_new rfl 32 _ _ rfl (hA x q) _ _ _ rfl (by simp) rfl (by rw [hA_size _ _]; kernel_rfl) (by rw [hA_size _ _]; rfl) (hA_all _ _) ?_) | (go_at_call 19; (with_reducible refine (cw _).mono ?_); rintro e w1 ⟨rfl, rfl⟩))
          go_ret
          exact ⟨by rw [hf]; rfl, below_alloc HW.out _⟩
        · have hy := HYES.out ⟨by omega, inB_iff.1 hb.symm⟩
          clear hb
          go_wp2_with (first | ((with_reducible refine at_load 32 ?_); refine wpList_load_part rfl 32 _ rfl (g) (off + k * 2) rfl _ (B) _ _ 2 (hg) Try.underlying32 rfl (by kernel_rfl) (hs) (hA x q) (he) ?_) | ((with_reducible refine at_alloc 32 ?_); refine wpList_alloc_named rfl 32 rfl (hA 0 0) (by kernel_rfl) ?_) | ((with_reducible refine at_store 32 ?_); refine wpList_store_new rfl 32 _ _ rfl (hA x q) _ _ _ rfl (by simp) rfl (by rw [hA_size _ _]; kernel_rfl) (by rw [hA_size _ _]; rfl) (hA_all _ _) ?_) | (go_at_call 19; (with_reducible refine (cw _).mono ?_); rintro e w1 ⟨rfl, rfl⟩))
          go_roundg (n - (k + 1))
          case measure => omega
          case rel => exact ⟨k + 1, by omega, rfl, by go_num, by rw [HNX.out], hy, below_alloc HW.out _⟩
    · obtain rfl : k = n := by omega
      clear hl
      go_wp2
      go_ret
      exact ⟨by rw [HM.out]; rfl, HW.out⟩

/-- a quantity without its sign -/
def absI (q : Int) : Int := if 0 ≤ q then q else -q
/-- what is held on the other side -/
def oppI (q n : Int) : Int := if decide (0 < n) = decide (0 < q) then 0 else absI n
set_option maxHeartbeats 1000000 in
theorem tsize_any (q : Int) (w : World) (hq : -1000000000 ≤ q ∧ q ≤ 1000000000) :
    Calls Try.prog 21 #[.int .i64 q] w fun e w' => e = .returned (.int .i64 (absI q)) ∧ w = w' := by
  have wq : IntKind.i64.wrap (-q) = -q := by rw [IntKind.wrap_i64]; omega
  by_cases h : 0 ≤ q
  · have h2 : -q ≤ q := by omega
    have HA := Lib.hid (show absI q = q from if_pos h)
    go_enter Try.func21, Try.ntmps21
    go_wp2
    go_ret
    exact ⟨by rw [HA.out]; exact ret_int (by omega), rfl⟩
  · have h2 : ¬ -q ≤ q := by omega
    have HA := Lib.hid (show absI q = -q from if_neg h)
    go_enter Try.func21, Try.ntmps21
    go_wp2
    go_ret
    exact ⟨by rw [HA.out]; exact ret_int (by omega), rfl⟩
set_option maxHeartbeats 1000000 in
theorem topp_any (n q : Int) (g g2 : Nat) (t t2 : TypeId) (fr fr2 : Nat × Nat) (w : World) (hn : -1000000000 ≤ n ∧ n ≤ 1000000000) (h1 : w.heap[g]? = some (.cells #[.int .i64 q] t fr)) (h2 : w.heap[g2]? = some (.cells #[.func (.func 21) #[] #[]] t2 fr2)) :
    Calls Try.prog 22 #[.int .i64 n, .pointer (some ⟨g, 0, none⟩), .pointer (some ⟨g2, 0, none⟩)] w fun e w' => e = .returned (.int .i64 (oppI q n)) ∧ w = w' := by
  have c1 := cellF h1
  have c2 := cellF h2
  have ct := fun w => tsize_any n w hn
  obtain ⟨m, hm⟩ : ∃ m, m = absI n := ⟨_, rfl⟩
  rw [← hm] at ct
  by_cases hq : 0 < q
  · by_cases hp : 0 < n
    · have HF := Lib.hid (show oppI q n = 0 from by unfold oppI; rw [decide_eq_true hq, decide_eq_true hp, if_pos rfl])
      clear hm
      go_enter Try.func22, Try.ntmps22
      go_wp2
      go_ret
      exact ⟨by rw [HF.out]; rfl, rfl⟩
    · have HF := Lib.hid (show oppI q n = m from by unfold oppI; rw [decide_eq_true hq, decide_eq_false hp, if_neg (by simp), hm])
      clear hm
      go_enter Try.func22, Try.ntmps22
      go_wp2_with (first | (go_at_call 21; (with_reducible refine (ct _).mono ?_); rintro e w1 ⟨rfl, rfl⟩))
      go_ret
      exact ⟨by rw [HF.out]; rfl, rfl⟩
  · by_cases hp : 0 < n
    · have HF := Lib.hid (show oppI q n = m from by unfold oppI; rw [decide_eq_false hq, decide_eq_true hp, if_neg (by simp), hm])
      clear hm
      go_enter Try.func22, Try.ntmps22
      go_wp2_with (first | (go_at_call 21; (with_reducible refine (ct _).mono ?_); rintro e w1 ⟨rfl, rfl⟩))
      go_ret
      exact ⟨by rw [HF.out]; rfl, rfl⟩
    · have HF := Lib.hid (show oppI q n = 0 from by unfold oppI; rw [decide_eq_false hq, decide_eq_false hp, if_pos rfl])
      clear hm
      go_enter Try.func22, Try.ntmps22
      go_wp2
      go_ret
      exact ⟨by rw [HF.out]; rfl, rfl⟩
end Go.Proofs.Yticdcdahehodkaa
