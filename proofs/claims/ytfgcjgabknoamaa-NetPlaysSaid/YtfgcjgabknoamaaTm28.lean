/- The statement's 'tame': at most 300 calls, each of at most so many bytes. Condition: what came in takes no more than the form's reach. -/
import Derived.Test.YtfgcjgabknoamaaOp28
namespace Go.Proofs.Ytfgcjgabknoamaa
set_option linter.unusedVariables false
set_option linter.unusedSimpArgs false
open Go.RowKit

/-- how many bytes the first j calls have -/
def sumO (O : Nat → OpD) : Nat → Nat
  | 0 => 0
  | j + 1 => sumO O j + (O j).n
theorem sumO_le {O : Nat → OpD} {B : Nat} : ∀ j, (∀ i, i < j → (O i).n ≤ B) → sumO O j ≤ j * B
  | 0, _ => by simp [sumO]
  | j + 1, h => by
    have h1 := sumO_le j (fun i hi => h i (by omega))
    have h2 := h j (by omega)
    rw [sumO, Nat.add_mul]; omega
theorem sumO_ge {O : Nat → OpD} : ∀ j i, i < j → (O i).n ≤ sumO O j
  | 0, i, h => by omega
  | j + 1, i, h => by
    rw [sumO]
    by_cases e : i = j
    · subst e; omega
    · have := sumO_ge (O := O) j i (by omega); omega
theorem o5_at {w : World} {a : Option Addr} {n j : Nat} {O : Nat → OpD} (hl : RowsC w 5 a n (fun i => o5 (O i))) (hj : j < n) : ∃ g off A t fr, a = some (⟨g, off, none⟩ : Addr) ∧ w.heap[g]? = some (.cells A t fr) ∧ off + j * 5 + 5 ≤ A.size ∧ A.extract (off + j * 5) (off + j * 5 + 5) = o5 (O j) ∧ A[off + j * 5 + 4]? = some (.slice (O j).a (O j).n (O j).c) := by
  obtain ⟨g, off, A, t, fr, h1, h2, h3, h4⟩ := hl j hj
  refine ⟨g, off, A, t, fr, h1, h2, h3, h4, ?_⟩
  have h := congrArg (fun B : Array Value => B[4]?) h4
  simp only [Array.getElem?_extract] at h
  rw [if_pos (by omega)] at h
  exact h
structure TameP (n : Nat) (O : Nat → OpD) (e : Ending) : Prop where
  out : ∃ b : Bool, e = .returned (.bool b) ∧ (b = true → n ≤ 300 ∧ ∀ i, i < n → (O i).n ≤ 2097152)
set_option maxHeartbeats 1000000 in
theorem tame_any (a : Option Addr) (n c : Nat) (O : Nat → OpD) (w : World) (hO : ∀ i, i < n → OkOp w (O i)) (hl : RowsC w 5 a n (fun i => o5 (O i))) (hnc : n ≤ c) (hc : c ≤ 9223372036854775807) :
    Calls Try.prog 16 #[.slice a n c] w fun e w' => TameP n O e ∧ Below w.heap.size w w' := by
  have HR := Lib.hid hl
  have HS := Lib.hid (fun j (hj : j ≤ 301) (hjn : j ≤ n) => (sumO_le (O := O) (B := 140737488355328) j (fun i hi => (hO i (by omega)).rch)))
  clear hO hl
  go_enter Try.func16, Try.ntmps16
  go_wp2
  go_loopg [3, 4] 301 (fun gh v3 v4 wr => ∃ j : Nat, j ≤ n ∧ j ≤ 301 ∧ gh = 301 - j ∧ v3 = .int .i64 (sumO O j : Nat) ∧ v4 = .int .i64 j ∧ Below w.heap.size w wr)
  case atStart => exact ⟨0, by omega, by omega, by omega, rfl, rfl, Below.refl _ _⟩
  case round =>
    obtain ⟨j, hj, hj3, rfl, rfl, rfl, hb⟩ := hrel
    have hs := HS.out j hj3 hj
    have HSU := Lib.hid (show sumO O (j + 1) = sumO O j + (O j).n from rfl)
    have HSG := Lib.hid (sumO_ge (O := O) j)
    have hmul := Nat.mul_le_mul_right 140737488355328 hj3
    by_cases hjn : j < n
    · have hjni : (j : Int) < n := by omega
      by_cases h301 : j < 301
      · have h301i : (j : Int) < 301 := by omega
        obtain ⟨g, off, A, t, fr, rfl, hg, _, _, h4⟩ := o5_at (fun i hi => (HR.out.kept hb) i hi) hjn
        have hs2 := HS.out (j + 1) (by omega) (by omega)
        have hmul2 := Nat.mul_le_mul_right 140737488355328 (show j + 1 ≤ 301 by omega)
        rw [HSU.out] at hs2
        have cg := cellF hg
        clear hg
        generalize (O j).n = m at *
        generalize (O j).a = am at *
        generalize (O j).c = cm at *
        generalize sumO O j = s at *
        go_wp2
        go_roundg (301 - (j + 1))
        case measure => omega
        case rel => exact ⟨j + 1, by omega, by omega, rfl, by rw [HSU.out]; go_num, by go_num, hb⟩
      · have h301i : ¬ (j : Int) < 301 := by omega
        have hbig : ¬ (n : Int) ≤ 300 := by omega
        generalize sumO O j = s at *
        go_wp2
        go_ret
        exact ⟨⟨false, rfl, fun h => by cases h⟩, hb⟩
    · obtain rfl : j = n := by omega
      by_cases h300 : j ≤ 300
      · have h300i : (j : Int) ≤ 300 := by omega
        obtain ⟨s, hsm⟩ : ∃ s, s = sumO O j := ⟨_, rfl⟩
        rw [← hsm] at HSG hs ⊢
        clear hsm
        by_cases h21 : s ≤ 2097152
        · have h21i : (s : Int) ≤ 2097152 := by omega
          go_wp2
          go_ret
          exact ⟨⟨true, rfl, fun _ => ⟨h300, fun i hi => by have := HSG.out i hi; omega⟩⟩, hb⟩
        · have h21i : ¬ (s : Int) ≤ 2097152 := by omega
          go_wp2
          go_ret
          exact ⟨⟨false, rfl, fun h => by cases h⟩, hb⟩
      · have h300i : ¬ (j : Int) ≤ 300 := by omega
        generalize sumO O j = s at *
        go_wp2
        go_ret
        exact ⟨⟨false, rfl, fun h => by cases h⟩, hb⟩
end Go.Proofs.Ytfgcjgabknoamaa
