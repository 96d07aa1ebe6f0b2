/- fixnum's Split: the parts of any total by any weights, or why there are none. Condition: the numbers fit their kinds. -/
import Derived.Test.YtanfhjfpdgjphaaCon01
import Derived.Test.YtanfhjfpdgjphaaSplP
import Derived.Test.YtanfhjfpdgjphaaDivA
import Derived.Laws.MakeOwn
namespace Go.Proofs.Ytanfhjfpdgjphaa
set_option linter.unusedVariables false
set_option linter.unusedSimpArgs false
open Go.RowKit

theorem mk_row (t e : TypeId) (k : IntKind) (n : Nat) (ht : Try.prog.underlying t = some (.slice e)) (hi : (Try.prog.info? e).map (fun i => (i.zero, i.size, i.bytes)) = some (some (.int k 0), 1, 8)) (hn : n ≤ 100000) :
    ∃ R : Array Value, R.size = n ∧ (∀ i, i < n → R[i]? = some (.int k 0)) ∧ ∀ w, (Instr.makeSlice t (.int .i64 (n : Int)) (.int .i64 (n : Int))).run Try.prog w = .ok (.slice (some ⟨w.heap.size, 0, none⟩) n n) (w.alloc (.cells R e)) := by
  cases h : Try.prog.info? e with
  | none => simp [h] at hi
  | some i =>
    simp [h] at hi
    obtain ⟨h1, h2, h3⟩ := hi
    refine ⟨madeCells (Value.int k 0).cells n, size_madeCells _ _, fun j hj => ?_, fun w => ?_⟩
    · unfold madeCells
      rw [Array.getElem?_map, show (Array.range n)[j]? = some j by simp [hj]]
      simp [Value.cells, Nat.mod_one]
    · have := run_make (P := Try.prog) w t e i _ ht h h1 .i64 .i64 n n (by omega) (by omega) (by rw [h3]; omega) (by omega)
      simpa [h2] using this

/-- the error of a split -/
def splE (Z : Nat → Int) (n : Nat) (T : Int) : Int :=
  if 1000 < n then 3 else if T < 0 ∨ ∃ i, i < n ∧ Z i < 0 then 2 else if fitB (sumZ Z n) = false then 6 else if T = 0 then 0 else if sumZ Z n = 0 then 10 else 0
def wts (Z : Nat → Int) : Nat → Nat := fun i => (Z i).toNat
def splP (Z : Nat → Int) (n : Nat) (T : Int) (i : Nat) : Nat := prt (wts Z) n T.toNat i
/-- the row of a split's parts, in a block that was not there before -/
def SplV (Z : Nat → Int) (n : Nat) (T : Int) (s : Nat) (w' : World) (v : Value) : Prop :=
  (splE Z n T = 0 → ∃ g P, v = .slice (some ⟨g, 0, none⟩) n n ∧ s ≤ g ∧ w'.heap[g]? = some (.cells P 2 (0, 0)) ∧ P.size = n ∧ ∀ i, i < n → P[i]? = some (.int .i64 (splP Z n T i : Nat))) ∧ (splE Z n T ≠ 0 → v = .slice none 0 0)
def SplC (a : Option Addr) (n cap : Nat) (Z : Nat → Int) (T : Int) (w : World) : Prop :=
  Calls Try.prog 29 #[.int .i64 T, .slice a n cap] w fun e w' => (∃ v, e = .returned (.tuple #[v, .int .i64 (splE Z n T)]) ∧ SplV Z n T w.heap.size w' v) ∧ Below w.heap.size w w'
theorem wts_sum {Z : Nat → Int} : ∀ n, (∀ i, i < n → 0 ≤ Z i) → sumZ Z n = (sumN (wts Z) n : Nat)
  | 0, _ => rfl
  | n + 1, h => by
    show sumZ Z n + Z n = ((sumN (wts Z) n + wts Z n : Nat) : Int)
    have e := h n (by omega)
    rw [wts_sum n (fun i hi => h i (by omega))]
    unfold wts; omega

set_option maxRecDepth 100000 in
set_option maxHeartbeats 2000000 in
theorem split_long (a : Option Addr) (n cap : Nat) (Z : Nat → Int) (T : Int) (w : World) (hn : 1000 < n) : SplC a n cap Z T w := by
  have he : splE Z n T = 3 := by unfold splE; rw [if_pos hn]
  unfold SplC
  rw [he]
  have hni : (1000 : Int) < n := by omega
  have HE := Lib.hid he
  clear he
  go_enter Try.func29, Try.ntmps29
  go_wp2
  go_ret2
  exact ⟨⟨_, rfl, fun h => by rw [HE.out] at h; omega, fun _ => rfl⟩, Below.refl _ _⟩

set_option maxRecDepth 100000 in
set_option maxHeartbeats 2000000 in
theorem split_neg (a : Option Addr) (n cap : Nat) (Z : Nat → Int) (T : Int) (w : World) (hn : n ≤ 1000) (hA : Ints w a n Z) (h : T < 0 ∨ ∃ i, i < n ∧ Z i < 0) : SplC a n cap Z T w := by
  have he : splE Z n T = 2 := by unfold splE; rw [if_neg (by omega), if_pos h]
  have c := has_any a n cap Z w hA (by omega)
  unfold SplC
  rw [he]
  have hni : ¬ (1000 : Int) < n := by omega
  have HE := Lib.hid he
  clear he hA
  by_cases hT : T < 0
  · clear h c
    go_enter Try.func29, Try.ntmps29
    go_wp2
    go_ret2
    exact ⟨⟨_, rfl, fun h => by rw [HE.out] at h; omega, fun _ => rfl⟩, Below.refl _ _⟩
  · have HX := Lib.hid (h.resolve_left hT)
    clear h
    go_enter Try.func29, Try.ntmps29
    go_wp2_with (first | (go_at_call 42; (with_reducible refine (c).mono ?_); rintro e w1 ⟨⟨b, rfl, hb⟩, rfl⟩; obtain rfl := hb.2 HX.out; clear hb))
    go_ret2
    exact ⟨⟨_, rfl, fun h => by rw [HE.out] at h; omega, fun _ => rfl⟩, Below.refl _ _⟩

set_option maxRecDepth 100000 in
set_option maxHeartbeats 2000000 in
theorem split_over (a : Option Addr) (n cap : Nat) (Z : Nat → Int) (T : Int) (w : World) (hn : n ≤ 1000) (hF : ∀ i, F64 (Z i)) (hA : Ints w a n Z) (hT : 0 ≤ T) (hP : ∀ i, i < n → 0 ≤ Z i) (ho : fitB (sumZ Z n) = false) : SplC a n cap Z T w := by
  have c := has_any a n cap Z w hA (by omega)
  have cm := fsum_any a n cap Z w hF hA (by omega)
  have hT0 : ¬ T < 0 := by omega
  have hni : ¬ (1000 : Int) < n := by omega
  have HX := Lib.hid (show ¬ ∃ i, i < n ∧ Z i < 0 from fun ⟨i, h1, h2⟩ => by have := hP i h1; omega)
  have he : splE Z n T = 6 := by unfold splE; rw [if_neg (by omega), if_neg (fun h => h.elim (by omega) HX.out), if_pos ho]
  have hb : fitE (sumZ Z n) = 6 := by
    have : ¬ (-9223372036854775808 ≤ sumZ Z n ∧ sumZ Z n ≤ 9223372036854775807) := fun h => by rw [(fit_yes h).1] at ho; cases ho
    exact (fit_no this).2.2
  rw [hb] at cm
  unfold SplC
  rw [he]
  have HE := Lib.hid he
  clear he hA hF hP ho hb
  generalize fitN (sumZ Z n) = m at *
  go_enter Try.func29, Try.ntmps29
  go_wp2_with (first | (go_at_call 42; (with_reducible refine (c).mono ?_); rintro e w1 ⟨⟨b, rfl, hb⟩, rfl⟩; obtain rfl : b = false := (by cases b; rfl; exact absurd (hb.1 rfl) HX.out); clear hb) | (go_at_call 26; (with_reducible refine (cm).mono ?_); rintro e w1 ⟨rfl, rfl⟩))
  go_ret2
  exact ⟨⟨_, rfl, fun h => by rw [HE.out] at h; omega, fun _ => rfl⟩, Below.refl _ _⟩

set_option maxRecDepth 100000 in
set_option maxHeartbeats 2000000 in
theorem split_zero (a : Option Addr) (n cap : Nat) (Z : Nat → Int) (w : World) (hn : n ≤ 1000) (hF : ∀ i, F64 (Z i)) (hA : Ints w a n Z) (hP : ∀ i, i < n → 0 ≤ Z i) (hv : -9223372036854775808 ≤ sumZ Z n ∧ sumZ Z n ≤ 9223372036854775807) : SplC a n cap Z 0 w := by
  obtain ⟨T, hT⟩ : ∃ T : Int, T = 0 := ⟨0, rfl⟩
  have c := has_any a n cap Z w hA (by omega)
  have cm := fsum_any a n cap Z w hF hA (by omega)
  have hT0 : ¬ T < 0 := by omega
  have hni : ¬ (1000 : Int) < n := by omega
  have HX := Lib.hid (show ¬ ∃ i, i < n ∧ Z i < 0 from fun ⟨i, h1, h2⟩ => by have := hP i h1; omega)
  clear hT0
  have hb := fit_yes (v := sumZ Z n) hv
  have hE : fitB (sumZ Z n) ≠ false := by rw [hb.1]; simp
  rw [hb.2.1, hb.2.2] at cm
  obtain ⟨R, r1, r2, hmk⟩ := mk_row 30 2 .i64 n Try.underlying30 (by kernel_rfl) (by omega)
  have HR := Lib.hid (And.intro r1 r2)
  clear r1 r2
  have he : splE Z n 0 = 0 := by unfold splE; rw [if_neg (by omega), if_neg (fun h => h.elim (by omega) HX.out), if_neg hE, if_pos rfl]
  unfold SplC
  rw [he]
  have HE := Lib.hid he
  clear he hA hF hP hb hE hT hv
  generalize sumZ Z n = m at *
  go_enter Try.func29, Try.ntmps29
  go_wp2_with (first | (go_at_call 42; (with_reducible refine (c).mono ?_); rintro e w1 ⟨⟨b, rfl, hb⟩, rfl⟩; obtain rfl : b = false := (by cases b; rfl; exact absurd (hb.1 rfl) HX.out); clear hb) | (go_at_call 26; (with_reducible refine (cm).mono ?_); rintro e w1 ⟨rfl, rfl⟩))
  go_ret2
  exact ⟨⟨_, rfl, fun _ => ⟨_, R, rfl, Nat.le_refl _, heap_alloc_new _ _, HR.out.1, fun i hi => by rw [HR.out.2 i hi, show splP Z n 0 i = 0 from prt_zero _ _ _]; rfl⟩, fun h => absurd HE.out h⟩, below_new _ _⟩

set_option maxRecDepth 100000 in
set_option maxHeartbeats 2000000 in
theorem split_none (a : Option Addr) (n cap : Nat) (Z : Nat → Int) (T : Int) (w : World) (hn : n ≤ 1000) (hF : ∀ i, F64 (Z i)) (hA : Ints w a n Z) (hT : 0 ≤ T) (hz : T ≠ 0) (hP : ∀ i, i < n → 0 ≤ Z i) (h0 : sumZ Z n = 0) : SplC a n cap Z T w := by
  have c := has_any a n cap Z w hA (by omega)
  have cm := fsum_any a n cap Z w hF hA (by omega)
  have hT0 : ¬ T < 0 := by omega
  have hni : ¬ (1000 : Int) < n := by omega
  have HX := Lib.hid (show ¬ ∃ i, i < n ∧ Z i < 0 from fun ⟨i, h1, h2⟩ => by have := hP i h1; omega)
  have hb := fit_yes (v := sumZ Z n) (by omega)
  have hE : fitB (sumZ Z n) ≠ false := by rw [hb.1]; simp
  rw [hb.2.1, hb.2.2, h0] at cm
  obtain ⟨R, r1, r2, hmk⟩ := mk_row 30 2 .i64 n Try.underlying30 (by kernel_rfl) (by omega)
  clear r1 r2
  have he : splE Z n T = 10 := by unfold splE; rw [if_neg (by omega), if_neg (fun h => h.elim (by omega) HX.out), if_neg hE, if_neg hz, if_pos h0]
  unfold SplC
  rw [he]
  have HE := Lib.hid he
  clear he hA hF hP h0 hb hE
  go_enter Try.func29, Try.ntmps29
  go_wp2_with (first | (go_at_call 42; (with_reducible refine (c).mono ?_); rintro e w1 ⟨⟨b, rfl, hb⟩, rfl⟩; obtain rfl : b = false := (by cases b; rfl; exact absurd (hb.1 rfl) HX.out); clear hb) | (go_at_call 26; (with_reducible refine (cm).mono ?_); rintro e w1 ⟨rfl, rfl⟩))
  go_ret2
  exact ⟨⟨_, rfl, fun h => by rw [HE.out] at h; omega, fun _ => rfl⟩, below_new _ _⟩
end Go.Proofs.Ytanfhjfpdgjphaa
