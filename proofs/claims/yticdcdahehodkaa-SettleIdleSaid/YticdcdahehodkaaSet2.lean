/- settle's Settle: what becomes of any dues and any fund, or why nothing does. Condition: the numbers fit their kinds. -/
import Derived.Test.YticdcdahehodkaaSet1
import Derived.Test.YticdcdahehodkaaSplitA
import Derived.OwnWalk
namespace Go.Proofs.Yticdcdahehodkaa
set_option linter.unusedVariables false
set_option linter.unusedSimpArgs false
open Go.RowKit

theorem OW.congr {w : World} {g n : Nat} {a a' c c' : Nat → Int} {d d' : Nat → Bool} {u u' : Nat → Int} (h : OW w g n a c d u) (ea : ∀ i, i < n → a' i = a i) (ec : ∀ i, i < n → c' i = c i) (ed : ∀ i, i < n → d' i = d i) (eu : ∀ i, i < n → u' i = u i) : OW w g n a' c' d' u' := by
  obtain ⟨G, h1, h2, h3⟩ := h.row
  exact ⟨G, h1, h2, fun i hi => by rw [ea i hi, ec i hi, ed i hi, eu i hi]; exact h3 i hi⟩
theorem OW.setrow {w w' : World} {g n i : Nat} {a c : Nat → Int} {d : Nat → Bool} {u : Nat → Int} (h : OW w g n a c d u) (hi : i < n) (x y : Int) (z : Bool) (v : Int) (hw : ∀ G, w.heap[g]? = some (.cells G 43 (0, 0)) → w'.heap[g]? = some (.cells (splice G (i * 4) (sA x y z v)) 43 (0, 0))) :
    OW w' g n (put a i x) (put c i y) (put d i z) (put u i v) := by
  obtain ⟨G, h1, h2, h3⟩ := h.row
  have hle : i * 4 + (sA x y z v).size ≤ G.size := by rw [sA_size]; omega
  have hsz : (sA x y z v).size = 4 := rfl
  refine ⟨_, hw G h1, by rw [splice_size hle, h2], fun k hk => ?_⟩
  rw [splice_get hle, splice_get hle, splice_get hle, splice_get hle, hsz]
  by_cases e : k = i
  · subst e
    rw [if_pos (by omega), if_pos (by omega), if_pos (by omega), if_pos (by omega), put_at, put_at, put_at, put_at]
    rw [show k * 4 - k * 4 = 0 by omega, show k * 4 + 1 - k * 4 = 1 by omega, show k * 4 + 2 - k * 4 = 2 by omega, show k * 4 + 3 - k * 4 = 3 by omega]
    exact ⟨rfl, rfl, rfl, rfl⟩
  · rw [if_neg (by omega), if_neg (by omega), if_neg (by omega), if_neg (by omega), put_ne _ _ e, put_ne _ _ e, put_ne _ _ e, put_ne _ _ e]
    exact h3 k hk
theorem mk_set (n : Nat) (hn : n ≤ 100000) : ∃ R : Array Value, (∀ w g, w.heap[g]? = some (.cells R 43 (0, 0)) → OW w g n (fun _ => 0) (fun _ => 0) (fun _ => false) (fun _ => 0)) ∧
    ∀ w, (Instr.makeSlice 35 (.int .i64 (n : Int)) (.int .i64 (n : Int))).run Try.prog w = .ok (.slice (some ⟨w.heap.size, 0, none⟩) n n) (w.alloc (.cells R 43)) := by
  have hi : (Try.prog.info? 43).map (fun i => (i.zero, i.size, decide (i.bytes ≤ 1000))) = some (some (.agg (sA 0 0 false 0)), 4, true) := by kernel_rfl
  cases h : Try.prog.info? 43 with
  | none => simp [h] at hi
  | some i =>
    simp [h] at hi
    obtain ⟨h1, h2, h3⟩ := hi
    have hm := Nat.mul_le_mul h3 hn
    refine ⟨madeCells (Value.agg (sA 0 0 false 0)).cells (n * 4), fun w g hg => ⟨_, hg, size_madeCells _ _, fun k hk => ?_⟩, fun w => ?_⟩
    · have hc : ∀ j, j < 4 → (madeCells (Value.agg (sA 0 0 false 0)).cells (n * 4))[k * 4 + j]? = (sA 0 0 false 0)[j]? := fun j hj => by
        unfold madeCells
        rw [Array.getElem?_map, show (Array.range (n * 4))[k * 4 + j]? = some (k * 4 + j) by rw [Array.getElem?_range, if_pos (by omega)]]
        have e : (k * 4 + j) % (Value.agg (sA 0 0 false 0)).cells.size = j := by
          show (k * 4 + j) % 4 = j
          omega
        simp only [Option.map_some, e]
        have : j = 0 ∨ j = 1 ∨ j = 2 ∨ j = 3 := by omega
        rcases this with rfl | rfl | rfl | rfl <;> rfl
      exact ⟨hc 0 (by omega), hc 1 (by omega), hc 2 (by omega), hc 3 (by omega)⟩
    · have := run_make (P := Try.prog) w 35 43 i _ Try.underlying35 h h1 .i64 .i64 n n (by omega) (by omega) (by
        have : ((i.bytes * n : Nat) : Int) ≤ 281474976710656 := by omega
        rwa [Int.natCast_mul] at this) (by omega)
      simpa [h2] using this

/-- the error -/
def sE (fund : Int) (n : Nat) (A C V : Nat → Int) : Int :=
  if 64 < n then 3 else if (dmay A C V n && inB fund 0 1000000000000000) = false then 2 else if sumZ V n ≠ 0 then 130 else 0
/-- what is missing of the first k -/
def miss (C V : Nat → Int) : Nat → Int := sumZ (fun i => max 0 (-(C i + V i)))
/-- the cut of i -/
def cutN (fund : Int) (n : Nat) (C V : Nat → Int) (i : Nat) : Nat := prt (wts V) n (miss C V n - min fund (miss C V n)).toNat i
def sF (fund : Int) (n : Nat) (A C V : Nat → Int) : Int := if sE fund n A C V = 0 then fund - min fund (miss C V n) else 0
def SetV (fund : Int) (n : Nat) (A C V : Nat → Int) (s : Nat) (w' : World) (v : Value) : Prop :=
  (sE fund n A C V = 0 → ∃ g, v = .slice (some ⟨g, 0, none⟩) n n ∧ s ≤ g ∧ OW w' g n A (fun i => max (C i + V i) 0 - (cutN fund n C V i : Nat)) (fun i => decide (C i + V i < 0)) (fun i => (cutN fund n C V i : Nat))) ∧ (sE fund n A C V ≠ 0 → v = .slice none 0 0)
def SetC (fund : Int) (a : Option Addr) (n cap : Nat) (A C V : Nat → Int) (w : World) : Prop :=
  Calls Try.prog 16 #[.int .i64 fund, .slice a n cap] w fun e w' => (∃ v, e = .returned (.tuple #[v, .int .i64 (sF fund n A C V), .int .i64 (sE fund n A C V)]) ∧ SetV fund n A C V w.heap.size w' v) ∧ Below w.heap.size w w'

set_option maxRecDepth 100000 in
set_option maxHeartbeats 4000000 in
theorem settle_bad (fund : Int) (a : Option Addr) (n cap : Nat) (A C V : Nat → Int) (w : World) (hb : ∀ i, (0 ≤ A i ∧ A i ≤ 4294967295) ∧ F64 (C i) ∧ F64 (V i)) (hA : Dues w a n A C V) (h : 64 < n ∨ (dmay A C V n && inB fund 0 1000000000000000) = false) : SetC fund a n cap A C V w := by
  by_cases hn : 64 < n
  · have he : sE fund n A C V = 3 := if_pos hn
    have hf : sF fund n A C V = 0 := by unfold sF; rw [he]; rfl
    unfold SetC
    rw [he, hf]
    have HE := Lib.hid he
    have hni : (64 : Int) < n := by omega
    clear he hf hA hb h
    go_enter Try.func16, Try.ntmps16
    go_wp2
    go_ret3
    exact ⟨⟨_, rfl, fun h => by rw [HE.out] at h; omega, fun _ => rfl⟩, Below.refl _ _⟩
  · have h2 := h.resolve_left hn
    have he : sE fund n A C V = 2 := by unfold sE; rw [if_neg hn, if_pos h2]
    have hf : sF fund n A C V = 0 := by unfold sF; rw [he]; rfl
    have cm := smay_any fund a n cap A C V w hb hA (by omega)
    rw [h2] at cm
    unfold SetC
    rw [he, hf]
    have HE := Lib.hid he
    have hni : ¬ (64 : Int) < n := by omega
    clear he hf hA hb h h2
    go_enter Try.func16, Try.ntmps16
    go_wp2_with (first | (go_at_call 25; (with_reducible refine (cm).mono ?_); rintro e w1 ⟨rfl, hb1⟩))
    go_ret3
    exact ⟨⟨_, rfl, fun h => by rw [HE.out] at h; omega, fun _ => rfl⟩, hb1⟩
end Go.Proofs.Yticdcdahehodkaa
