/- A slice of legs that the call itself made and writes in place. No condition. -/
import Derived.Test.YtodbbcagpfjieaaOne
import Derived.Test.YtodbbcagpfjieaaSums
namespace Go.Proofs.Ytodbbcagpfjieaa
set_option linter.unusedVariables false
set_option linter.unusedSimpArgs false
open Go.RowKit

/-- the call's own slice of n legs, in one block of its own -/
def Own (w : World) (base : Nat) (a : Option Addr) (n : Nat) (L : Nat → Array Value) : Prop :=
  n = 0 ∨ ∃ g cur, a = some ⟨g, 0, none⟩ ∧ base ≤ g ∧ w.heap[g]? = some (.cells cur 45 (0, 0)) ∧ n * 26 ≤ cur.size ∧ ∀ i, i < n → cur.extract (i * 26) (i * 26 + 26) = L i
theorem own_rows {w : World} {base n : Nat} {v : Value} {L : Nat → Array Value} (hL : ∀ i, IsLeg (L i)) (h : w.ownsRow base 45 26 v n (flat L n)) : ∃ a cap, v = .slice a n cap ∧ Own w base a n L := by
  obtain ⟨a, cap, rfl, hl⟩ := own_legs hL h
  refine ⟨a, cap, rfl, ?_⟩
  by_cases e : n = 0
  · exact .inl e
  · obtain ⟨_, ⟨hv, rfl⟩ | ⟨g, cap, cur, hv, hb, hg, hn, _, hc, ht⟩⟩ := h
    · exact .inl rfl
    · injection hv with hv
      subst hv
      refine .inr ⟨g, cur, rfl, hb, hg, by omega, fun i hi => ?_⟩
      obtain ⟨g', off, A, t, fr, ha, hg', _, he⟩ := hl i hi
      injection ha with ha
      injection ha with h1 h2
      subst h1
      subst h2
      rw [hg] at hg'
      injection hg' with hg'
      injection hg' with h3
      subst h3
      simpa using he
theorem Own.legs {w : World} {base n : Nat} {a : Option Addr} {L : Nat → Array Value} (h : Own w base a n L) : Legs w a n L := fun i hi => by
  rcases h with h | ⟨g, cur, rfl, _, hg, hs, he⟩
  · omega
  · exact ⟨g, 0, cur, _, _, rfl, hg, by omega, by simpa using he i hi⟩
theorem Own.below {w w' : World} {base n : Nat} {a : Option Addr} {L : Nat → Array Value} (h : Own w base a n L) (hb : Below w.heap.size w w') : Own w' base a n L := by
  rcases h with h | ⟨g, cur, h1, h2, hg, hs, he⟩
  · exact .inl h
  · exact .inr ⟨g, cur, h1, h2, kept hb hg, hs, he⟩
theorem Own.grown {w w' : World} {row : Option Nat} {base n c : Nat} {a : Option Addr} {L : Nat → Array Value} (h : Own w base a n L) (hg : w.grownBy w' row) (hne : ∀ g, (Value.slice a n c).ownBlock = some g → row ≠ some g) : Own w' base a n L := by
  rcases h with h | ⟨g, cur, rfl, h2, hgg, hs, he⟩
  · exact .inl h
  · exact .inr ⟨g, cur, rfl, h2, (hg.block g (Array.getElem?_eq_some_iff.1 hgg).1 (fun e => hne g rfl e.symm)).trans hgg, hs, he⟩
theorem Own.set {w w' : World} {base n g i j : Nat} {L : Nat → Array Value} {v : Value} (h : Own w base (some ⟨g, 0, none⟩) n L) (hL : ∀ i, IsLeg (L i)) (hi : i < n) (hj : j < 26) (hw : w' = w.setCell ⟨g, i * 26 + j, none⟩ v) :
    Own w' base (some ⟨g, 0, none⟩) n (fun k => if k = i then (L i).setIfInBounds j v else L k) := by
  subst hw
  rcases h with h | ⟨g', cur, h1, h2, hg, hs, he⟩
  · omega
  · injection h1 with h1
    injection h1 with h1
    subst h1
    refine .inr ⟨_, _, rfl, h2, heap_set hg, by simpa using hs, fun k hk => ?_⟩
    simp only
    by_cases e : k = i
    · subst e
      rw [if_pos rfl, ext_set_mid (by omega) (by omega) (by omega), he k hk, show k * 26 + j - k * 26 = j by omega]
    · rw [if_neg e, ext_set_out (by omega), he k hk]
theorem set_grown (w : World) (g i : Nat) (v : Value) : w.grownBy (w.setCell ⟨g, i, none⟩ v) (some g) :=
  ⟨rfl, rfl, rfl, by simp [World.setCell], fun k _ hk => by rw [heap_setCell_other w ⟨g, i, none⟩ k v (fun e => hk (by rw [e]))]⟩
theorem Own.at {w : World} {base n i : Nat} {a : Option Addr} {L : Nat → Array Value} (h : Own w base a n L) (hi : i < n) : ∃ g cur, a = some ⟨g, 0, none⟩ ∧ base ≤ g ∧ w.heap[g]? = some (.cells cur 45 (0, 0)) ∧ i * 26 + 26 ≤ cur.size ∧ ∀ j, j < 26 → cur[i * 26 + j]? = (L i)[j]? := by
  rcases h with h | ⟨g, cur, rfl, h2, hg, hs, he⟩
  · omega
  · refine ⟨g, cur, rfl, h2, hg, by omega, fun j hj => ?_⟩
    rw [← he i hi, Array.getElem?_extract, if_pos (by omega)]
theorem Own.congr {w : World} {base n : Nat} {a : Option Addr} {L L' : Nat → Array Value} (h : Own w base a n L) (e : ∀ i, i < n → L i = L' i) : Own w base a n L' := by
  rcases h with h | ⟨g, cur, h1, h2, hg, hs, he⟩
  · exact .inl h
  · exact .inr ⟨g, cur, h1, h2, hg, hs, fun i hi => by rw [he i hi, e i hi]⟩

/-- 'Leg{Spec: x}' -/
def leg0 (A : Array Value) : Array Value := A.push (.int .i64 0)
theorem leg0_leg {A : Array Value} (h : IsSpec A) : IsLeg (leg0 A) where
  size := by simp [leg0, h.size]
  spec := by
    have e : (leg0 A).extract 0 25 = A := by
      apply Array.ext_getElem?
      intro i
      rw [Array.getElem?_extract]
      have := h.size
      by_cases hi : i < 25
      · rw [if_pos (by simp [leg0]; omega)]; unfold leg0; rw [Nat.zero_add, Array.getElem?_push_lt (by omega), Array.getElem?_eq_getElem (by omega)]
      · rw [if_neg (by omega)]; symm; rw [Array.getElem?_eq_none_iff]; omega
    rw [e]; exact h
  q := o_i64 (n := 0) (by unfold leg0; rw [← h.size, Array.getElem?_push_size]) (by omega)
theorem leg0_q {A : Array Value} (h : IsSpec A) : N (leg0 A) 25 = 0 := by
  unfold N leg0; rw [← h.size, Array.getElem?_push_size]
theorem z26_at (i : Nat) : z26[i]? = if i = 25 then some (.int .i64 0) else z26[i]? := by
  by_cases e : i = 25
  · subst e; rfl
  · rw [if_neg e]
theorem built_leg {A : Array Value} (h : A.size = 25) : Try.prog.built 45 [(0, .agg A)] = some (leg0 A) := by
  have hi : (Try.prog.info? 45).map (fun i => i.zero.map (·.cells)) = some (some z26) := by kernel_rfl
  have hp : (#[({ name := "Spec", type := 25, offset := 0, embedded := false, tag := "", pkgPath := "", byteOffset := 0 } : Field), { name := "Q", type := 2, offset := 25, embedded := false, tag := "", pkgPath := "", byteOffset := 192 }].toList.mapM
      (fun f => (Try.prog.info? f.type).map fun i => (f.offset, i.size))) = some [(0, 25), (25, 1)] := by kernel_rfl
  unfold Program.built
  cases hq : Try.prog.info? 45 with
  | none => simp [hq] at hi
  | some it =>
    cases hz : it.zero with
    | none => simp [hq, hz] at hi
    | some z =>
      simp [hq, hz] at hi
      simp only [Try.underlying45, hz, hp]
      rw [hi]
      unfold Instr.fill
      show (if (decide (A.size ≠ 25) || decide (0 + A.size > z26.size)) = true then none else _) = _
      rw [if_neg (by rw [h]; decide)]
      unfold Instr.fill
      congr 1
      have hf := fold_set A.toList 0 z26 (by rw [Array.length_toList, h]; decide)
      have e : Array.foldl (fun cs x => cs.setIfInBounds (0 + x.2) x.1) z26 A.zipIdx = (A.toList.zipIdx 0).foldl (fun cs x => cs.setIfInBounds (0 + x.2) x.1) z26 := by
        rw [← Array.foldl_toList]
        simp
      show Array.foldl (fun cs x => cs.setIfInBounds (0 + x.2) x.1) z26 A.zipIdx = leg0 A
      rw [e]
      apply Array.ext_getElem?
      intro i
      rw [hf.2 i]
      by_cases hi2 : i < 25
      · rw [if_pos (by simp [h]; omega)]
        unfold leg0
        rw [Array.getElem?_push_lt (by omega)]
        simp [h, hi2]
      · rw [if_neg (by simp [h]; omega)]
        by_cases e2 : i = 25
        · subst e2
          unfold leg0
          rw [← h, Array.getElem?_push_size, h]; rfl
        · have : z26.size = 26 := rfl
          rw [Array.getElem?_eq_none_iff.2 (by omega), Array.getElem?_eq_none_iff.2 (by simp [leg0, h]; omega)]
end Go.Proofs.Ytodbbcagpfjieaa
