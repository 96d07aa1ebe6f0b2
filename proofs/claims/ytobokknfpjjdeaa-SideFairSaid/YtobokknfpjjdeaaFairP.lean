/- The orders of a side stand by price, and at one price in the order in which they came: each call keeps it. Condition: the side is one. -/
import Derived.Test.YtobokknfpjjdeaaDrop
import Derived.Test.YtobokknfpjjdeaaSideAn
namespace Go.Proofs.Ytobokknfpjjdeaa
set_option linter.unusedVariables false
set_option linter.unusedSimpArgs false
open Go.RowKit

/-- by price, at one price by number; all numbers below nx -/
structure FI (buy : Bool) (L : Nat → Array Value) (k : Nat) (nx : Int) : Prop where
  pr : ∀ i j, i < j → j < k → bet buy (N (L j) 3) (N (L i) 3) = false
  eq : ∀ i j, i < j → j < k → N (L j) 3 = N (L i) 3 → N (L i) 0 < N (L j) 0
  lt : ∀ i, i < k → N (L i) 0 < nx
theorem bet_iff {buy : Bool} {x y : Int} : bet buy x y = true ↔ (if buy then y < x else x < y) := by
  unfold bet; cases buy <;> simp
theorem bet_no {buy : Bool} {x y : Int} : bet buy x y = false ↔ (if buy then x ≤ y else y ≤ x) := by
  unfold bet; cases buy <;> simp
theorem FI.congr {buy : Bool} {L L' : Nat → Array Value} {k : Nat} {nx : Int} (h : FI buy L k nx) (e3 : ∀ i, N (L' i) 3 = N (L i) 3) (e0 : ∀ i, N (L' i) 0 = N (L i) 0) : FI buy L' k nx :=
  ⟨fun i j h1 h2 => by rw [e3, e3]; exact h.pr i j h1 h2, fun i j h1 h2 => by rw [e3, e3, e0, e0]; exact h.eq i j h1 h2, fun i h1 => by rw [e0]; exact h.lt i h1⟩
theorem N_lo {L : Nat → Array Value} {i : Nat} {y : Int} (r j : Nat) (hj : j ≠ 4) : N (lo L i y r) j = N (L r) j := by
  unfold lo
  split
  · unfold N; rw [Array.getElem?_setIfInBounds_ne (Ne.symm hj)]
  · rfl
theorem FI.lod {buy : Bool} {L : Nat → Array Value} {k : Nat} {nx : Int} (h : FI buy L k nx) (i : Nat) (y : Int) : FI buy (lo L i y) k nx :=
  h.congr (fun r => N_lo r 3 (by decide)) (fun r => N_lo r 0 (by decide))
theorem FI.remd {buy : Bool} {L : Nat → Array Value} {k : Nat} {nx : Int} (h : FI buy L k nx) (p : Nat) : FI buy (rem L p) (k - 1) nx := by
  have m : ∀ i, i < k - 1 → ∃ r, rem L p i = L r ∧ r < k ∧ (r = if i < p then i else i + 1) := fun i hi => by
    unfold Ytobokknfpjjdeaa.rem
    split
    · exact ⟨i, rfl, by omega, rfl⟩
    · exact ⟨i + 1, rfl, by omega, rfl⟩
  refine ⟨fun i j h1 h2 => ?_, fun i j h1 h2 => ?_, fun i h1 => ?_⟩
  · obtain ⟨r, e1, e2, e3⟩ := m i (by omega)
    obtain ⟨s, f1, f2, f3⟩ := m j h2
    rw [e1, f1]
    exact h.pr r s (by split at e3 <;> split at f3 <;> omega) f2
  · obtain ⟨r, e1, e2, e3⟩ := m i (by omega)
    obtain ⟨s, f1, f2, f3⟩ := m j h2
    rw [e1, f1]
    exact h.eq r s (by split at e3 <;> split at f3 <;> omega) f2
  · obtain ⟨r, e1, e2, _⟩ := m i h1
    rw [e1]
    exact h.lt r e2
/-- what stands ahead of an order's place is as good, what stands behind is worse -/
theorem plc_facts {buy : Bool} {L : Nat → Array Value} {B : Array Value} {k : Nat} {nx : Int} (h : FI buy L k nx) : (∀ i, i < plc buy L B k → bet buy (N B 3) (N (L i) 3) = false) ∧ (∀ i, plc buy L B k ≤ i → i < k → bet buy (N B 3) (N (L i) 3) = true) := by
  have hb := fi_bd (q := fun i => bet buy (N B 3) (N (L i) 3)) k
  unfold plc
  split
  · rename_i hp
    have h0 := fi_none (q := fun i => bet buy (N B 3) (N (L i) 3)) k (by omega)
    exact ⟨h0, fun i h1 h2 => by omega⟩
  · rename_i hp
    obtain ⟨h1, h2, h3⟩ := fi_at (q := fun i => bet buy (N B 3) (N (L i) 3)) k (fi (fun i => bet buy (N B 3) (N (L i) 3)) k).toNat (by omega)
    generalize (fi (fun i => bet buy (N B 3) (N (L i) 3)) k).toNat = p at *
    refine ⟨h3, fun i hi hk => ?_⟩
    by_cases e : i = p
    · subst e; exact h2
    · have h4 := h.pr p i (by omega) hk
      rw [bet_iff] at h2 ⊢
      rw [bet_no] at h4
      cases buy <;> simp_all <;> omega
theorem FI.insd {buy : Bool} {L : Nat → Array Value} {B : Array Value} {k : Nat} {nx nx' : Int} (h : FI buy L k nx) (hB : N B 0 = nx) (hn : nx < nx') : FI buy (ins L (plc buy L B k) B) (k + 1) nx' := by
  obtain ⟨ha, hb⟩ := plc_facts (B := B) h
  have hp : plc buy L B k ≤ k := plc_le
  generalize plc buy L B k = p at *
  have e1 : ∀ i, i < p → ins L p B i = L i := fun i hi => by unfold Ytobokknfpjjdeaa.ins; rw [if_pos hi]
  have e2 : ins L p B p = B := by unfold Ytobokknfpjjdeaa.ins; rw [if_neg (by omega), if_pos rfl]
  have e3 : ∀ i, p < i → ins L p B i = L (i - 1) := fun i hi => by unfold Ytobokknfpjjdeaa.ins; rw [if_neg (by omega), if_neg (by omega)]
  have worse : ∀ i, p ≤ i → i < k → bet buy (N (L i) 3) (N B 3) = false ∧ N (L i) 3 ≠ N B 3 := fun i h1 h2 => by
    have := hb i h1 h2
    rw [bet_iff] at this
    rw [bet_no]
    cases buy <;> simp_all <;> omega
  refine ⟨fun i j h1 h2 => ?_, fun i j h1 h2 => ?_, fun i h1 => ?_⟩
  · rcases Nat.lt_trichotomy j p with hj | hj | hj
    · rw [e1 i (by omega), e1 j hj]; exact h.pr i j h1 (by omega)
    · subst hj; rw [e2, e1 i h1]; exact ha i h1
    · rw [e3 j hj]
      rcases Nat.lt_trichotomy i p with hi | hi | hi
      · rw [e1 i hi]; exact h.pr i (j - 1) (by omega) (by omega)
      · subst hi; rw [e2]; exact (worse (j - 1) (by omega) (by omega)).1
      · rw [e3 i hi]; exact h.pr (i - 1) (j - 1) (by omega) (by omega)
  · rcases Nat.lt_trichotomy j p with hj | hj | hj
    · rw [e1 i (by omega), e1 j hj]; exact h.eq i j h1 (by omega)
    · subst hj; rw [e2, e1 i h1, hB]; exact fun _ => h.lt i (by omega)
    · rw [e3 j hj]
      rcases Nat.lt_trichotomy i p with hi | hi | hi
      · rw [e1 i hi]; exact h.eq i (j - 1) (by omega) (by omega)
      · subst hi; rw [e2]; exact fun e => absurd e (worse (j - 1) (by omega) (by omega)).2
      · rw [e3 i hi]; exact h.eq (i - 1) (j - 1) (by omega) (by omega)
  · rcases Nat.lt_trichotomy i p with hi | hi | hi
    · rw [e1 i hi]; have := h.lt i (by omega); omega
    · subst hi; rw [e2, hB]; exact hn
    · rw [e3 i hi]; have := h.lt (i - 1) (by omega); omega

/-- what a call leaves -/
def Left (g base : Nat) (buy : Bool) (nx : Int) (w w' : World) : Prop := ∃ k L, SideIs w' g base k buy L ∧ FI buy L k nx ∧ Below base w w' ∧ Ko g w w'
theorem Left.same {w w' : World} {g base k : Nat} {buy : Bool} {L : Nat → Array Value} {nx : Int} (h : SideIs w g base k buy L) (hf : FI buy L k nx) (hb : Below w.heap.size w w') : Left g base buy nx w w' := by
  have hg := h.bg
  obtain ⟨v, hr, _⟩ := h.row
  have hl := (cells_of hr).2.2
  exact ⟨k, L, h.kept hb, hf, hb.mono (by omega), ko_below hb⟩
theorem sfill_fair {w : World} {g base k : Nat} {buy : Bool} {L : Nat → Array Value} {nx : Int} (n : Int) (h : SideIs w g base k buy L) (hf : FI buy L k nx) :
    Calls Try.prog 16 #[.pointer (some ⟨g, 0, none⟩), .int .i64 n] w fun e w' => (∃ v x, e = .returned (.tuple #[.agg v, .int .i64 x])) ∧ Left g base buy nx w w' := by
  by_cases hk : k = 0
  · subst hk
    exact (sfill_zero n h).mono fun e w' ⟨h1, h2⟩ => ⟨⟨_, _, h1⟩, Left.same h hf h2⟩
  · by_cases hn : n < 1 ∨ N (L 0) 4 < n
    · exact (sfill_bad n h (by omega) hn).mono fun e w' ⟨h1, h2⟩ => ⟨⟨_, _, h1⟩, Left.same h hf h2⟩
    · by_cases he : n = N (L 0) 4
      · subst he
        exact (sfill_all h (by omega) (by omega)).mono fun e w' ⟨h1, h2, h3, h4, _⟩ => ⟨⟨_, _, h1⟩, _, _, h2, hf.remd 0, h3, h4⟩
      · exact (sfill_some n h (by omega) (by omega) (by omega)).mono fun e w' ⟨h1, h2, h3, h4, _⟩ => ⟨⟨_, _, h1⟩, _, _, h2, hf.lod 0 _, h3, h4⟩
theorem sdrop_fair {w : World} {g base k : Nat} {buy : Bool} {L : Nat → Array Value} {nx : Int} (n : Int) (h : SideIs w g base k buy L) (hf : FI buy L k nx) :
    Calls Try.prog 17 #[.pointer (some ⟨g, 0, none⟩), .int .u64 n] w fun e w' => (∃ v x, e = .returned (.tuple #[.agg v, .int .i64 x])) ∧ Left g base buy nx w w' := by
  have hb := fi_bd (q := fun j => decide (N (L j) 0 = n)) k
  by_cases hi : fi (fun j => decide (N (L j) 0 = n)) k = -1
  · exact (sdrop_out n h hi).mono fun e w' ⟨h1, h2⟩ => ⟨⟨_, _, h1⟩, Left.same h hf h2⟩
  · exact (sdrop_in n (i := (fi (fun j => decide (N (L j) 0 = n)) k).toNat) h (by omega)).mono fun e w' ⟨h1, h2, h3, h4⟩ => ⟨⟨_, _, h1⟩, _, _, h2, hf.remd _, h3, h4⟩
theorem slower_fair {w : World} {g base k : Nat} {buy : Bool} {L : Nat → Array Value} {nx : Int} (n x : Int) (h : SideIs w g base k buy L) (hf : FI buy L k nx) (hx : F64 x) :
    Calls Try.prog 18 #[.pointer (some ⟨g, 0, none⟩), .int .u64 n, .int .i64 x] w fun e w' => (∃ r, e = .returned (.int .i64 r)) ∧ Left g base buy nx w w' := by
  have hb := fi_bd (q := fun j => decide (N (L j) 0 = n)) k
  by_cases hi : fi (fun j => decide (N (L j) 0 = n)) k = -1
  · exact (slower_out n x h hi).mono fun e w' ⟨h1, h2⟩ => ⟨⟨_, h1⟩, Left.same h hf h2⟩
  · refine (slower_in n x (i := (fi (fun j => decide (N (L j) 0 = n)) k).toNat) h (by omega) hx).mono fun e w' h1 => ?_
    rcases h1 with ⟨h1, _, h2⟩ | ⟨h1, _, h2, h3, h4⟩
    · exact ⟨⟨_, h1⟩, Left.same h hf h2⟩
    · exact ⟨⟨_, h1⟩, _, _, h2, hf.lod _ _, h3, h4⟩
theorem sadd_fair {w : World} {g base k : Nat} {buy : Bool} {L : Nat → Array Value} {B : Array Value} {nx : Int} (h : SideIs w g base k buy L) (hf : FI buy L k nx) (hB : IsOrd B) (h0 : N B 0 = nx) :
    Calls Try.prog 13 #[.pointer (some ⟨g, 0, none⟩), .agg B] w fun e w' => ∃ r : Int, e = .returned (.int .i64 r) ∧ (r ≠ 0 ∧ Left g base buy nx w w' ∨ r = 0 ∧ Left g base buy (nx + 1) w w') := by
  refine (sadd_any h hB).mono fun e w' ⟨r, h1, h2⟩ => ⟨r, h1, ?_⟩
  rcases h2 with ⟨h2, h3⟩ | ⟨h2, _, _, _, _, h3, h4, h5⟩
  · exact .inl ⟨h2, Left.same h hf h3⟩
  · exact .inr ⟨h2, _, _, h3, hf.insd h0 (by omega), h4, h5⟩
end Go.Proofs.Ytobokknfpjjdeaa
