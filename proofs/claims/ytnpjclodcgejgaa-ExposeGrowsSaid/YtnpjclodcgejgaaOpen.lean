/- What a slice of legs that came in holds, leg by leg, and what a Spec that came in holds. No condition. -/
import Derived.Test.YtnpjclodcgejgaaMargin
import Derived.Deep.Slices
import Derived.OpenShut
namespace Go.Proofs.Ytnpjclodcgejgaa
set_option linter.unusedVariables false
set_option linter.unusedSimpArgs false
open Go.RowKit Go.Deep

theorem o_i64 {A : Array Value} {i : Nat} {n : Int} (h : A[i]? = some (.int .i64 n)) (h1 : -9223372036854775808 ≤ n ∧ n ≤ 9223372036854775807) : IsN A .i64 i := IsN_of h h1
theorem o_u32 {A : Array Value} {i : Nat} {n : Int} (h : A[i]? = some (.int .u32 n)) (h1 : 0 ≤ n ∧ n ≤ 4294967295) : IsN A .u32 i := IsN_of h h1
theorem o_u8 {A : Array Value} {i : Nat} {n : Int} (h : A[i]? = some (.int .u8 n)) (h1 : 0 ≤ n ∧ n ≤ 255) : IsN A .u8 i := IsN_of h h1
theorem z26_leg : IsLeg z26 := by
  refine ⟨rfl, ⟨rfl, o_u32 (n := 0) rfl (by omega), o_u8 (n := 0) rfl (by omega), ?_, o_u32 (n := 0) rfl (by omega), o_i64 (n := 0) rfl (by omega)⟩, o_i64 (n := 0) rfl (by omega)⟩
  intro i h1 h2
  have : i = 2 ∨ i = 3 ∨ i = 4 ∨ i = 5 ∨ i = 6 ∨ i = 7 ∨ i = 8 ∨ i = 9 ∨ i = 10 ∨ i = 11 ∨ i = 12 ∨ i = 13 ∨ i = 14 ∨ i = 15 ∨ i = 16 ∨ i = 17 ∨ i = 18 ∨ i = 19 ∨ i = 20 ∨ i = 21 ∨ i = 22 := by omega
  rcases this with rfl | rfl | rfl | rfl | rfl | rfl | rfl | rfl | rfl | rfl | rfl | rfl | rfl | rfl | rfl | rfl | rfl | rfl | rfl | rfl | rfl <;> exact o_i64 rfl (by omega)

section
variable {H : Type} {enc : TypeId × Value → H} {w : World} {base : Nat} {spare : Nat → Bool} {held : Bool}

theorem leaf {fuel o : Nat} {t : TypeId} {k : IntKind} {cs : List Value} {x : DataW H × List MemPlace} (hu : Try.prog.underlying t = some (.int k)) (hc : Try.prog.cellsOf t = 1)
    (h : DataW.trod enc Try.prog w base spare held fuel t ((cs.drop o).take (Try.prog.cellsOf t)) = some x) : IsN cs.toArray k o := by
  obtain ⟨n, h1, _, hw⟩ := DataW.trod_int hu h
  rw [hc] at h1
  have h2 := congrArg (fun l => l[0]?) h1
  simp [List.getElem?_take, List.getElem?_drop] at h2
  exact IsN_of (by simpa using h2) (by simpa [Lit.wf] using hw)
theorem fields {fuel : Nat} {t : TypeId} {fs : Array Field} {cs : List Value} {x : DataW H × List MemPlace} (ht : Try.prog.underlying t = some (.struct fs)) (h : DataW.trod enc Try.prog w base spare held fuel t cs = some x) :
    cs.length = Try.prog.cellsOf t ∧ ∃ n, ∀ (i : Nat) (f : Field), fs[i]? = some f → ∃ y, DataW.trod enc Try.prog w base spare held n f.type ((cs.drop f.offset).take (Try.prog.cellsOf f.type)) = some y := by
  obtain ⟨xs, n, _, _, hl, hxl, hx⟩ := DataW.trod_struct ht h
  refine ⟨hl, n, fun i f hf => ?_⟩
  have hi : i < xs.length := by rw [hxl]; exact (Array.getElem?_eq_some_iff.1 hf).1
  exact ⟨xs[i], by rw [hx i f hf]; exact List.getElem?_eq_getElem hi⟩
theorem drop_at {cs : List Value} {o c i : Nat} (h : i < c) : ((cs.drop o).take c).toArray[i]? = cs.toArray[o + i]? := by
  simp [List.getElem?_take, List.getElem?_drop, h]
theorem IsN.moved {A B : Array Value} {i j : Nat} {k : IntKind} (h : IsN A k i) (e : A[i]? = B[j]?) : IsN B k j := by
  obtain ⟨h1, h2⟩ := h
  exact IsN_of (by rw [← e]; exact h1) h2

theorem spec_trod {fuel : Nat} {cs : List Value} {x : DataW H × List MemPlace} (h : DataW.trod enc Try.prog w base spare held fuel 28 cs = some x) : IsSpec cs.toArray := by
  obtain ⟨hl, n, hf⟩ := fields Try.underlying28 h
  have hc : Try.prog.cellsOf 28 = 25 := by kernel_rfl
  have c2 : Try.prog.cellsOf 2 = 1 := by kernel_rfl
  have c22 : Try.prog.cellsOf 25 = 1 := by kernel_rfl
  have c5 : Try.prog.cellsOf 5 = 1 := by kernel_rfl
  have c23 : Try.prog.cellsOf 26 = 16 := by kernel_rfl
  obtain ⟨_, y0⟩ := hf 0 _ rfl
  obtain ⟨_, y1⟩ := hf 1 _ rfl
  obtain ⟨_, y2⟩ := hf 2 _ rfl
  obtain ⟨_, y3⟩ := hf 3 _ rfl
  obtain ⟨_, y4⟩ := hf 4 _ rfl
  obtain ⟨_, y5⟩ := hf 5 _ rfl
  obtain ⟨_, y6⟩ := (show ∃ y, DataW.trod enc Try.prog w base spare held n 26 ((cs.drop 6).take (Try.prog.cellsOf 26)) = some y from hf 6 _ rfl)
  rw [c23] at y6
  obtain ⟨_, y7⟩ := hf 7 _ rfl
  obtain ⟨_, y8⟩ := hf 8 _ rfl
  obtain ⟨_, y9⟩ := hf 9 _ rfl
  have l2 := leaf Try.underlying2 c2 y2
  have l3 := leaf Try.underlying2 c2 y3
  have l4 := leaf Try.underlying2 c2 y4
  have l5 := leaf Try.underlying2 c2 y5
  have l7 := leaf Try.underlying2 c2 y7
  have l6 : ∀ i, i < 16 → IsN cs.toArray .i64 (6 + i) := fun i hi => by
    obtain ⟨xs, m, _, _, _, hxl, hx⟩ := DataW.trod_array Try.underlying26 y6
    have hx1 := hx i hi
    rw [List.getElem?_eq_getElem (by rw [hxl]; exact hi)] at hx1
    have h1 := leaf Try.underlying2 c2 hx1
    rw [c2, Nat.mul_one] at h1
    exact h1.moved (drop_at hi)
  refine ⟨by simpa [hc] using hl, leaf Try.underlying25 c22 y0, leaf Try.underlying5 c5 y1, fun i h1 h2 => ?_, leaf Try.underlying25 c22 y8, leaf Try.underlying2 c2 y9⟩
  by_cases e : i < 6
  · have : i = 2 ∨ i = 3 ∨ i = 4 ∨ i = 5 := by omega
    rcases this with rfl | rfl | rfl | rfl
    · exact l2
    · exact l3
    · exact l4
    · exact l5
  · by_cases e2 : i = 22
    · subst e2; exact l7
    · have := l6 (i - 6) (by omega)
      rwa [show 6 + (i - 6) = i by omega] at this

theorem leg_trod {fuel : Nat} {cs : List Value} {x : DataW H × List MemPlace} (h : DataW.trod enc Try.prog w base spare held fuel 30 cs = some x) : IsLeg cs.toArray := by
  obtain ⟨hl, n, hf⟩ := fields Try.underlying30 h
  have hc : Try.prog.cellsOf 30 = 26 := by kernel_rfl
  have c2 : Try.prog.cellsOf 2 = 1 := by kernel_rfl
  have c25 : Try.prog.cellsOf 28 = 25 := by kernel_rfl
  obtain ⟨_, y0⟩ := (show ∃ y, DataW.trod enc Try.prog w base spare held n 28 ((cs.drop 0).take (Try.prog.cellsOf 28)) = some y from hf 0 _ rfl)
  rw [c25] at y0
  obtain ⟨_, y1⟩ := hf 1 _ rfl
  have h0 := spec_trod y0
  refine ⟨by simpa [hc] using hl, ?_, leaf Try.underlying2 c2 y1⟩
  have e : cs.toArray.extract 0 25 = ((cs.drop 0).take 25).toArray := by simp
  rw [e]
  exact h0

theorem legs_cells {a : Addr} {n : Nat} {C : Nat → List Value} (h : ∀ i, i < n → w.cells? 0 (a.add (i * 26)) 26 = some (C i)) : Legs w (some a) n (fun i => (C i).toArray) := by
  intro i hi
  have hc : ∀ i, i < n → ∀ j, j < 26 → w.cell? (a.add (i * 26 + j)) = (C i)[j]? ∧ (C i).length = 26 := fun i hi j hj => by
    obtain ⟨_, h2, h3⟩ := World.cells?_some (h i hi)
    rw [← h3 j hj, add_add]
    exact ⟨rfl, h2⟩
  obtain ⟨b, o, sp⟩ := a
  have h0 := hc 0 (by omega) 0 (by omega)
  have hl0 := h0.2
  have h00 : w.cell? ⟨b, o, sp⟩ = some ((C 0)[0]'(by omega)) := by
    have := h0.1
    simp only [Nat.zero_mul, Nat.add_zero] at this
    rw [show (⟨b, o, sp⟩ : Addr).add 0 = ⟨b, o, sp⟩ from rfl] at this
    rw [this]
    exact List.getElem?_eq_getElem _
  unfold World.cell? at h00
  cases hb : w.heap[b]? with
  | none => simp [hb] at h00
  | some ob =>
    cases ob with
    | cells A t fr =>
      simp only [hb] at h00
      cases sp with
      | some s => simp at h00
      | none =>
        have hA : ∀ i, i < n → ∀ j, j < 26 → A[o + i * 26 + j]? = (C i)[j]? := fun i hi j hj => by
          rw [← (hc i hi j hj).1]
          have : (⟨b, o, none⟩ : Addr).add (i * 26 + j) = ⟨b, o + i * 26 + j, none⟩ := by unfold Addr.add; split <;> simp_all; omega
          rw [this, cellF hb]
        have hs : o + i * 26 + 26 ≤ A.size := by
          have h1 := hA i hi 25 (by omega)
          rw [List.getElem?_eq_getElem (by rw [(hc i hi 0 (by omega)).2]; omega)] at h1
          have := (Array.getElem?_eq_some_iff.1 h1).1
          omega
        refine ⟨b, o, A, t, fr, rfl, hb, hs, ?_⟩
        apply Array.ext_getElem?
        intro j
        rw [Array.getElem?_extract]
        by_cases hj : j < 26
        · rw [if_pos (by omega), hA i hi j hj]; simp
        · rw [if_neg (by omega)]
          symm
          simp
          rw [(hc i hi 0 (by omega)).2]; omega
    | _ => simp [hb] at h00

theorem Legs.congr {a : Option Addr} {n : Nat} {L L' : Nat → Array Value} (h : Legs w a n L) (e : ∀ i, i < n → L i = L' i) : Legs w a n L' := fun i hi => by
  rw [← e i hi]; exact h i hi
/-- A slice of legs that came in. -/
theorem legs_of {r : Reach} {b : Nat} {v : Value} {d : DataW H} {p : List MemPlace} (hv : Value.okWide Try.prog w r b 60 v) (h : DataW.Trod enc Try.prog w 0 spare held 60 v d p) :
    ∃ (a : Option Addr) (n cap : Nat) (L : Nat → Array Value), v = .slice a n cap ∧ n ≤ cap ∧ cap ≤ 9223372036854775807 ∧ (∀ i, IsLeg (L i)) ∧ Legs w a n L ∧ (a = none → n = 0 ∧ cap = 0) := by
  obtain ⟨m, hm⟩ := h
  obtain ⟨a, n, cap, rfl⟩ : ∃ a n cap, v = .slice a n cap := by
    unfold Value.okWide Cell.okWide at hv
    simp only [Try.underlying60] at hv
    unfold Cell.ok at hv
    simp only [Try.underlying60] at hv
    cases v <;> simp_all
  refine ⟨a, n, cap, ?_⟩
  rcases open_slice Try.underlying60 hm with ⟨hc, _⟩ | ⟨a', len, cap', m', f, D, Pl, hc, _, hl, hmx, hmm, _, hx⟩
  · simp [Value.cells] at hc
    obtain ⟨rfl, rfl, rfl⟩ := hc
    exact ⟨fun _ => z26, rfl, by omega, by omega, fun _ => z26_leg, fun i hi => by omega, fun _ => ⟨rfl, rfl⟩⟩
  · simp [Value.cells] at hc
    obtain ⟨rfl, rfl, rfl⟩ := hc
    have hlm : n ≤ m' := by rw [hmm]; split <;> omega
    have c45 : Try.prog.cellsOf 30 = 26 := by kernel_rfl
    rw [c45] at hx
    obtain ⟨C, hC⟩ := choose_lt (α := List Value) (n := n) (p := fun i cs => w.cells? 0 (a'.add (i * 26)) 26 = some cs ∧ DataW.trod enc Try.prog w 0 spare held f 30 cs = some (D i, Pl i)) (fun i hi => hx i (by omega))
    refine ⟨fun i => if i < n then (C i).toArray else z26, rfl, hl, by unfold maxLen at hmx; omega, fun i => ?_, (legs_cells (fun i hi => (hC i hi).1)).congr (fun i hi => by simp [hi]), fun h => by cases h⟩
    simp only
    split
    · rename_i hi
      exact leg_trod (hC i hi).2
    · exact z26_leg
/-- A Spec that came in. -/
theorem spec_of {r : Reach} {b : Nat} {v : Value} {d : DataW H} {p : List MemPlace} (hv : Value.okWide Try.prog w r b 28 v) (h : DataW.Trod enc Try.prog w 0 spare held 28 v d p) : ∃ A, v = .agg A ∧ IsSpec A := by
  obtain ⟨m, hm⟩ := h
  unfold Value.okWide at hv
  simp only [Try.underlying28] at hv
  obtain ⟨cs, rfl, _⟩ := hv
  have h1 := spec_trod hm
  exact ⟨cs, rfl, by simpa [Value.cells] using h1⟩
end
end Go.Proofs.Ytnpjclodcgejgaa
