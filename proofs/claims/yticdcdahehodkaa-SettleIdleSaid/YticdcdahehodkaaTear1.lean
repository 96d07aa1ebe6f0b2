/- tearup's Parts: what anybody gives up, or why nobody does. Condition: the numbers fit their kinds. -/
import Derived.Test.YticdcdahehodkaaTear0
import Derived.Test.YticdcdahehodkaaSplitA
namespace Go.Proofs.Yticdcdahehodkaa
set_option linter.unusedVariables false
set_option linter.unusedSimpArgs false
open Go.RowKit

/-- what counts against the one who gives up -/
def tW (q : Int) (n : Nat) (Q : Nat → Int) : Nat → Int := fun i => if i < n then oppI q (Q i) else 0
/-- the error -/
def tE (q : Int) (n : Nat) (A Q : Nat → Int) : Int :=
  if 64 < n then 3 else if q = 0 ∨ inB q (-10000000) 10000000 = false ∨ hmay A Q n = false then 2 else if sumZ (tW q n Q) n < absI q then 7 else 0
/-- what holder i gives up -/
def tP (q : Int) (n : Nat) (Q : Nat → Int) : Nat → Nat := splP (tW q n Q) n (absI q)
/-- how many of the first k give up anything; and their rows -/
def tm (P : Nat → Nat) : Nat → Nat := cnt (fun i => decide (0 < P i))
def tR (A : Nat → Int) (P : Nat → Nat) : Nat → Nat → Array Value
  | 0 => fun _ => hA 0 0
  | k + 1 => if 0 < P k then snoc (tR A P k) (tm P k) (hA (A k) (P k : Nat)) else tR A P k
theorem tm_succ (P : Nat → Nat) (k : Nat) : tm P (k + 1) = tm P k + (if 0 < P k then 1 else 0) := by
  show tm P k + b01 (decide (0 < P k)) = _
  by_cases h : 0 < P k
  · rw [decide_eq_true h, if_pos h]; rfl
  · rw [decide_eq_false h, if_neg h]; rfl
theorem tR_size (A : Nat → Int) (P : Nat → Nat) : ∀ k j, (tR A P k j).size = 2
  | 0, j => rfl
  | k + 1, j => by
    unfold tR
    split
    · unfold snoc; split
      · rfl
      · exact tR_size A P k j
    · exact tR_size A P k j
theorem tR_all (A : Nat → Int) (P : Nat → Nat) : ∀ k j, (tR A P k j).all (·.oneCell') = true
  | 0, j => hA_all _ _
  | k + 1, j => by
    unfold tR
    split
    · unfold snoc; split
      · exact hA_all _ _
      · exact tR_all A P k j
    · exact tR_all A P k j
theorem absI_bd {q : Int} (h : -10000000 ≤ q ∧ q ≤ 10000000) : 0 ≤ absI q ∧ absI q ≤ 10000000 := by unfold absI; split <;> omega
theorem oppI_bd {q n : Int} (h : -10000000 ≤ n ∧ n ≤ 10000000) : 0 ≤ oppI q n ∧ oppI q n ≤ 10000000 := by
  unfold oppI; split
  · omega
  · exact absI_bd h
/-- the sum of what is on the other side -/
theorem tW_sum {q : Int} {n : Nat} {A Q : Nat → Int} (h : hmay A Q n = true) : ∀ k, k ≤ n → 0 ≤ sumZ (tW q n Q) k ∧ sumZ (tW q n Q) k ≤ 10000000 * k
  | 0, _ => by show (0 : Int) ≤ 0 ∧ (0 : Int) ≤ 10000000 * ((0 : Nat) : Int); omega
  | k + 1, hk => by
    have := tW_sum (q := q) h k (by omega)
    have h2 := oppI_bd (q := q) (hmay_at h (show k < n by omega)).2
    show 0 ≤ sumZ (tW q n Q) k + tW q n Q k ∧ sumZ (tW q n Q) k + tW q n Q k ≤ 10000000 * ((k + 1 : Nat) : Int)
    unfold tW at *; rw [if_pos (by omega)]; omega
theorem tW_bd {q : Int} {n : Nat} {A Q : Nat → Int} (h : hmay A Q n = true) (i : Nat) : 0 ≤ tW q n Q i ∧ tW q n Q i ≤ 10000000 := by
  unfold tW
  by_cases hi : i < n
  · rw [if_pos hi]; exact oppI_bd (hmay_at h hi).2
  · rw [if_neg hi]; omega
/-- the split goes through -/
theorem tW_split {q : Int} {n : Nat} {A Q : Nat → Int} (h : hmay A Q n = true) (hn : n ≤ 64) (hq0 : q ≠ 0) (hq : -10000000 ≤ q ∧ q ≤ 10000000) (hs : absI q ≤ sumZ (tW q n Q) n) : splE (tW q n Q) n (absI q) = 0 := by
  have h1 := tW_sum (q := q) h n (Nat.le_refl _)
  have h2 : 0 < absI q := by unfold absI; split <;> omega
  unfold splE
  rw [if_neg (by omega), if_neg (fun h3 => ?_), (fit_yes (v := sumZ (tW q n Q) n) (by omega)).1, if_neg (by simp), if_neg (by omega), if_neg (by omega)]
  rcases h3 with h3 | ⟨i, _, h3⟩
  · omega
  · have := (tW_bd (q := q) h i).1; omega

/-- the answer: nothing, and why; or rows of one's own -/
def TearV (q : Int) (n : Nat) (A Q : Nat → Int) (s : Nat) (w' : World) (v : Value) : Prop :=
  (tE q n A Q = 0 → w'.ownsRow s 32 2 v (tm (tP q n Q) n) (flat (tR A (tP q n Q) n) (tm (tP q n Q) n))) ∧ (tE q n A Q ≠ 0 → v = .slice none 0 0)
def TearC (a : Option Addr) (n cap : Nat) (A Q : Nat → Int) (q : Int) (w : World) : Prop :=
  Calls Try.prog 12 #[.int .i64 q, .slice a n cap] w fun e w' => (∃ v, e = .returned (.tuple #[v, .int .i64 (tE q n A Q)]) ∧ TearV q n A Q w.heap.size w' v) ∧ Below w.heap.size w w'

set_option maxRecDepth 100000 in
set_option maxHeartbeats 4000000 in
theorem tparts_bad (a : Option Addr) (n cap : Nat) (A Q : Nat → Int) (q : Int) (w : World) (hb : ∀ i, (0 ≤ A i ∧ A i ≤ 4294967295) ∧ F64 (Q i)) (hA : Holds w a n A Q) (hq : F64 q) (h : 64 < n ∨ q = 0 ∨ inB q (-10000000) 10000000 = false ∨ hmay A Q n = false) : TearC a n cap A Q q w := by
  by_cases hn : 64 < n
  · have he : tE q n A Q = 3 := if_pos hn
    unfold TearC
    rw [he]
    have HE := Lib.hid he
    have hni : (64 : Int) < n := by omega
    clear he hA hb hq h
    go_enter Try.func12, Try.ntmps12
    go_wp2
    go_ret2
    exact ⟨⟨_, rfl, fun h => by rw [HE.out] at h; omega, fun _ => rfl⟩, below_new _ _⟩
  · have h2 := h.resolve_left hn
    have he : tE q n A Q = 2 := by unfold tE; rw [if_neg hn, if_pos h2]
    unfold TearC
    rw [he]
    have HE := Lib.hid he
    have hni : ¬ (64 : Int) < n := by omega
    have cm := fun w2 hb2 => tmay_any a n cap A Q w2 hb (hA.kept (w' := w2) hb2) (by omega)
    have cw := fun w => within_any q 10000000 w hq (by omega) (by omega)
    clear he hA hb hq h
    by_cases hq0 : q = 0
    · subst hq0
      clear h2 cm cw
      go_enter Try.func12, Try.ntmps12
      go_wp2
      go_ret2
      exact ⟨⟨_, rfl, fun h => by rw [HE.out] at h; omega, fun _ => rfl⟩, below_new _ _⟩
    · have hqz : (q == 0) = false := by rw [beq_eq_false_iff_ne]; exact hq0
      have h3 := h2.resolve_left hq0
      clear h2
      obtain ⟨b, hb⟩ : ∃ b, b = inB q (-10000000) 10000000 := ⟨_, rfl⟩
      rw [← hb] at cw h3
      clear hb
      cases b
      · clear h3 cm
        go_enter Try.func12, Try.ntmps12
        go_wp2_with (first | (go_at_call 19; (with_reducible refine (cw _).mono ?_); rintro e w1 ⟨rfl, rfl⟩))
        go_ret2
        exact ⟨⟨_, rfl, fun h => by rw [HE.out] at h; omega, fun _ => rfl⟩, below_new _ _⟩
      · have h4 : hmay A Q n = false := h3.resolve_left (by simp)
        rw [h4] at cm
        clear h3 h4
        go_enter Try.func12, Try.ntmps12
        go_wp2_with (first | (go_at_call 19; (with_reducible refine (cw _).mono ?_); rintro e w1 ⟨rfl, rfl⟩) | (go_at_call 20; (with_reducible refine (cm _ (below_new _ _)).mono ?_); rintro e w1 ⟨rfl, hb1⟩))
        go_ret2
        exact ⟨⟨_, rfl, fun h => by rw [HE.out] at h; omega, fun _ => rfl⟩, below_then (below_new _ _) hb1⟩
end Go.Proofs.Yticdcdahehodkaa
