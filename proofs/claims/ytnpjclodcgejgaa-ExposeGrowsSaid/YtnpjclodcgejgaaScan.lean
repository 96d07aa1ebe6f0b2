/- What a scan comes to, and whether it is refused: scan's own and the document's, for any 16 shifts. No condition but that the numbers fit their kinds. -/
import Derived.Test.YtnpjclodcgejgaaSpec
namespace Go.Proofs.Ytnpjclodcgejgaa
set_option linter.unusedVariables false
set_option linter.unusedSimpArgs false
open Go.RowKit

structure IsSh (S : Array Value) : Prop where
  size : S.size = 16
  c : ∀ i, i < 16 → IsN S .i64 i

/-- the scan of the first k shifts -/
def wk (S : Array Value) (q : Int) : Nat → Int
  | 0 => 0
  | k + 1 => max (wk S q k) (-(q * N S k))
/-- are the first k shifts within the bound? -/
def swTo (S : Array Value) : Nat → Bool
  | 0 => true
  | k + 1 => swTo S k && inB (N S k) (-10000000) 10000000
theorem swTo_mono {S : Array Value} {k n : Nat} (h : swTo S n = true) (hk : k ≤ n) : swTo S k = true := by
  induction n with
  | zero => have : k = 0 := by omega
            subst this; exact h
  | succ n ih =>
    by_cases e : k = n + 1
    · subst e; exact h
    · exact ih (by simp [swTo] at h; exact h.1) (by omega)
theorem swTo_at {S : Array Value} {k n : Nat} (h : swTo S n = true) (hk : k < n) : -10000000 ≤ N S k ∧ N S k ≤ 10000000 := by
  have h1 := swTo_mono h (show k + 1 ≤ n by omega)
  simp only [swTo, Bool.and_eq_true] at h1
  exact inB_iff.1 h1.2
theorem prod_bd {q s : Int} (hq : -1000000000 ≤ q ∧ q ≤ 1000000000) (hs : -10000000 ≤ s ∧ s ≤ 10000000) : -10000000000000000 ≤ q * s ∧ q * s ≤ 10000000000000000 := by
  have h1 : q * s ≤ (q * s).natAbs := by omega
  have h2 : -(q * s) ≤ (q * s).natAbs := by omega
  have h3 : (q * s).natAbs = q.natAbs * s.natAbs := Int.natAbs_mul q s
  have h4 : q.natAbs * s.natAbs ≤ 1000000000 * 10000000 := Nat.mul_le_mul (by omega) (by omega)
  omega
theorem wk_bd {S : Array Value} {q : Int} (hq : -1000000000 ≤ q ∧ q ≤ 1000000000) (hs : swTo S 16 = true) : ∀ k, k ≤ 16 → 0 ≤ wk S q k ∧ wk S q k ≤ 10000000000000000
  | 0, _ => by simp [wk]
  | k + 1, hk => by
    have ih := wk_bd hq hs k (by omega)
    have := prod_bd hq (swTo_at hs (show k < 16 by omega))
    simp only [wk]
    omega

theorem idx_s {S : Array Value} (h : IsSh S) (k : Nat) (hk : k < 16) (w : World) :
    (Instr.index 26 (.agg S) (.int .i64 (k : Int))).run Try.prog w = .ok (.int .i64 (N S k)) w := by
  refine run_index_arr w _ 2 16 _ k _ Try.underlying26 (by kernel_rfl) (by kernel_rfl) hk ?_
  exact (h.c k hk).1

set_option maxHeartbeats 1000000 in
theorem worst_any (S : Array Value) (q : Int) (w : World) (h : IsSh S) (hs : swTo S 16 = true) (hq : -1000000000 ≤ q ∧ q ≤ 1000000000) :
    Calls Try.prog 35 #[.agg S, .int .i64 q] w fun e w' => e = .returned (.int .i64 (wk S q 16)) ∧ Below w.heap.size w w' := by
  have hex : S.extract 0 16 = S := by rw [← h.size]; simp
  have HE := Lib.hid hex
  have Hsz := Lib.hid h.size
  clear hex
  have HI := Lib.hid (fun (k : Nat) (hk : k < 16) => idx_s h k hk)
  have HS := Lib.hid hs
  clear hs
  go_enter Try.func35, Try.ntmps35
  go_wp2_with (refine wpList_load_part rfl 26 _ rfl w.heap.size 0 rfl 26 S (0, 0) _ 16 (heap_alloc_new _ _) Try.underlying26 rfl (by kernel_rfl) (by rw [Hsz.out]; omega) S HE.out ?_)
  go_loop [4, 8] (fun m i => ∃ k : Nat, k ≤ 16 ∧ i = .int .i64 k ∧ m = .int .i64 (wk S q k)) (fun _ i => 16 - (intOf i).toNat)
  case atStart => exact ⟨0, by omega, rfl, rfl⟩
  case round =>
    obtain ⟨k, hk, rfl, rfl⟩ := hrel
    by_cases hlt : k < 16
    · have hix := HI.out k hlt
      have hb := wk_bd hq HS.out k (by omega)
      have hp := prod_bd hq (swTo_at HS.out hlt)
      have hsb := swTo_at HS.out hlt
      have hn : wk S q (k + 1) = max (wk S q k) (-(q * N S k)) := rfl
      have HN := Lib.hid hn
      clear hn
      generalize wk S q k = m at *
      generalize hx : N S k = x at *
      clear hx
      have hneg : -q * x = -(q * x) := Int.neg_mul q x
      have HG := Lib.hid hneg
      clear hneg
      go_wp2
      go_round
      case rel =>
        refine ⟨k + 1, by omega, by go_num, ?_⟩
        rw [HN.out]
        simp only [Int.neg_mul]
        generalize q * x = p at *
        have hw : wrap64 (-p) = -p := by unfold wrap64; omega
        try simp only [hw]
        go_num
      case measure => simp [intOf]; omega
    · obtain rfl : k = 16 := by omega
      have hb := wk_bd hq HS.out 16 (by omega)
      generalize hm : wk S q 16 = m at *
      go_wp2
      go_ret
      exact ⟨rfl, (Below.refl _ _).alloc (Nat.le_refl _) _⟩

/-- what Scan answers -/
def scN (S : Array Value) (q : Int) : Int := if swTo S 16 && inB q (-1000000000) 1000000000 then wk S q 16 else 0
def scE (S : Array Value) (q : Int) : Int := if swTo S 16 && inB q (-1000000000) 1000000000 then 0 else 2

set_option maxHeartbeats 1000000 in
theorem scan_any (S : Array Value) (q : Int) (w : World) (h : IsSh S) (hq : F64 q) :
    Calls Try.prog 18 #[.agg S, .int .i64 q] w fun e w' => e = .returned (.tuple #[.int .i64 (scN S q), .int .i64 (scE S q)]) ∧ Below w.heap.size w w' := by
  have hex : S.extract 0 16 = S := by rw [← h.size]; simp
  have HE := Lib.hid hex
  have Hsz := Lib.hid h.size
  clear hex
  unfold F64 at hq
  have HI := Lib.hid (fun (k : Nat) (hk : k < 16) => idx_s h k hk)
  go_enter Try.func18, Try.ntmps18
  go_wp2_with (refine wpList_load_part rfl 26 _ rfl w.heap.size 0 rfl 26 S (0, 0) _ 16 (heap_alloc_new _ _) Try.underlying26 rfl (by kernel_rfl) (by rw [Hsz.out]; omega) S HE.out ?_)
  go_loop [9] (fun i => ∃ k : Nat, k ≤ 16 ∧ i = .int .i64 k ∧ swTo S k = true) (fun i => 16 - (intOf i).toNat)
  case atStart => exact ⟨0, by omega, rfl, rfl⟩
  case round =>
    obtain ⟨k, hk, rfl, hs⟩ := hrel
    have HS := Lib.hid hs
    clear hs
    by_cases hlt : k < 16
    · have hix := HI.out k hlt
      obtain ⟨_, e1, e2⟩ := (h.c k hlt).i64
      have hn : swTo S (k + 1) = (swTo S k && inB (N S k) (-10000000) 10000000) := rfl
      have HN := Lib.hid hn
      clear hn
      generalize N S k = x at *
      cases hin : inB x (-10000000) 10000000
      · have hno : (swTo S 16 && inB q (-1000000000) 1000000000) = false := by
          have h1 : swTo S (k + 1) = false := by rw [HN.out, hin]; simp
          have : swTo S 16 = false := by
            rw [Bool.eq_false_iff]; intro h'; rw [swTo_mono h' (by omega)] at h1; simp at h1
          simp [this]
        have HF := Lib.hid (And.intro (show scN S q = 0 by simp only [scN, hno]; rfl) (show scE S q = 2 by simp only [scE, hno]; rfl))
        clear hno
        go_wp2_with (go_at_call 34; refine (within_any _ _ _ ⟨by omega, by omega⟩ (by omega) (by omega)).mono ?_; rintro e w' ⟨rfl, rfl⟩)
        go_ret2
        exact ⟨by rw [HF.out.1, HF.out.2]; rfl, (Below.refl _ _).alloc (Nat.le_refl _) _⟩
      · go_wp2_with (go_at_call 34; refine (within_any _ _ _ ⟨by omega, by omega⟩ (by omega) (by omega)).mono ?_; rintro e w' ⟨rfl, rfl⟩)
        go_round
        case rel => exact ⟨k + 1, by omega, by go_num, by rw [HN.out, HS.out, hin]; rfl⟩
        case measure => simp [intOf]; omega
    · obtain rfl : k = 16 := by omega
      cases hin : inB q (-1000000000) 1000000000
      · have HF := Lib.hid (And.intro (show scN S q = 0 by simp [scN, hin]) (show scE S q = 2 by simp [scE, hin]))
        go_wp2_with (go_at_call 34; refine (within_any _ _ _ ⟨by omega, by omega⟩ (by omega) (by omega)).mono ?_; rintro e w' ⟨rfl, rfl⟩)
        go_ret2
        exact ⟨by rw [HF.out.1, HF.out.2]; rfl, (Below.refl _ _).alloc (Nat.le_refl _) _⟩
      · have HF := Lib.hid (And.intro (show scN S q = wk S q 16 by simp [scN, hin, HS.out]) (show scE S q = 0 by simp [scE, hin, HS.out]))
        have hq2 := inB_iff.1 hin
        go_wp2_with (first | (refine wpList_load_part rfl 26 _ rfl w.heap.size 0 rfl 26 S (0, 0) _ 16 (heap_alloc_new _ _) Try.underlying26 rfl (by kernel_rfl) (by rw [Hsz.out]; omega) S HE.out ?_) | (go_at_call 34; refine (within_any _ _ _ ⟨by omega, by omega⟩ (by omega) (by omega)).mono ?_; rintro e w' ⟨rfl, rfl⟩) | (go_at_call 35; refine (worst_any S q _ h HS.out hq2).mono ?_; rintro e w1 ⟨rfl, hb⟩))
        go_ret2
        exact ⟨by rw [HF.out.1, HF.out.2]; rfl, ((Below.refl _ _).alloc (Nat.le_refl _) _).trans (hb.mono (by simp))⟩

/-- the document's cell reads -/
theorem cell_s {S : Array Value} (h : IsSh S) (k : Nat) (hk : k < 16) : S[k]? = some (.int .i64 (N S k)) := (h.c k hk).1

set_option maxHeartbeats 1000000 in
theorem rworst_any (S : Array Value) (q : Int) (w : World) (h : IsSh S) (hs : swTo S 16 = true) (hq : -1000000000 ≤ q ∧ q ≤ 1000000000) :
    Calls Try.prog 49 #[.agg S, .int .i64 q] w fun e w' => e = .returned (.int .i64 (wk S q 16)) ∧ Below w.heap.size w w' := by
  have Hsz := Lib.hid h.size
  have HI := Lib.hid (fun (k : Nat) (hk : k < 16) => cell_s h k hk)
  have HS := Lib.hid hs
  clear hs
  go_enter Try.func49, Try.ntmps49
  go_wp2
  go_loop [5, 6] (fun m i => ∃ k : Nat, k ≤ 16 ∧ i = .int .i64 k ∧ m = .int .i64 (wk S q k)) (fun _ i => 16 - (intOf i).toNat)
  case atStart => exact ⟨0, by omega, rfl, rfl⟩
  case round =>
    obtain ⟨k, hk, rfl, rfl⟩ := hrel
    by_cases hlt : k < 16
    · have hcell := HI.out k hlt
      have hb := wk_bd hq HS.out k (by omega)
      have hp := prod_bd hq (swTo_at HS.out hlt)
      have hsb := swTo_at HS.out hlt
      have hn : wk S q (k + 1) = max (wk S q k) (-(q * N S k)) := rfl
      have HN := Lib.hid hn
      clear hn
      generalize wk S q k = m at *
      generalize hx : N S k = x at *
      clear hx
      generalize hpp : q * x = p at *
      by_cases hgt : m < -p
      · go_wp2
        go_round
        case rel => exact ⟨k + 1, by omega, by go_num, by rw [HN.out]; go_num⟩
        case measure => simp [intOf]; omega
      · go_wp2
        go_round
        case rel => exact ⟨k + 1, by omega, by go_num, by rw [HN.out]; go_num⟩
        case measure => simp [intOf]; omega
    · obtain rfl : k = 16 := by omega
      have hb := wk_bd hq HS.out 16 (by omega)
      generalize hm : wk S q 16 = m at *
      go_wp2
      go_ret
      exact ⟨rfl, (Below.refl _ _).alloc (Nat.le_refl _) _⟩

end Go.Proofs.Ytnpjclodcgejgaa
