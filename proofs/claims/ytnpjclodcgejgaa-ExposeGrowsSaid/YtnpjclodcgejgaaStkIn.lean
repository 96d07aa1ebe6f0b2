/- What a slice of stakes that came in holds, stake by stake and order by order. No condition. -/
import Derived.Test.YtnpjclodcgejgaaStake
namespace Go.Proofs.Ytnpjclodcgejgaa
set_option linter.unusedVariables false
set_option linter.unusedSimpArgs false
open Go.RowKit Go.Deep

theorem z5_ord : IsOrd #[.int .u64 0, .int .u32 0, .bool false, .int .i64 0, .int .i64 0] :=
  ⟨rfl, IsN_of (n := 0) rfl ⟨by decide, by decide⟩, IsN_of (n := 0) rfl ⟨by decide, by decide⟩, IsB_of (b := false) rfl, IsN_of (n := 0) rfl ⟨by decide, by decide⟩, IsN_of (n := 0) rfl ⟨by decide, by decide⟩⟩
def z29 : Array Value := z26 ++ #[.int .i64 0, .int .i64 0, .slice none 0 0]
theorem z29_stk : IsStk z29 :=
  ⟨rfl, by rw [show z29.extract 0 26 = z26 from rfl]; exact z26_leg, IsN_of (n := 0) rfl ⟨by decide, by decide⟩, IsN_of (n := 0) rfl ⟨by decide, by decide⟩, none, 0, 0, rfl⟩

section
variable {H : Type} {enc : TypeId × Value → H} {w : World} {base : Nat} {spare : Nat → Bool} {held : Bool}

theorem leafB {fuel o : Nat} {t : TypeId} {cs : List Value} {x : DataW H × List MemPlace} (hu : Try.prog.underlying t = some .bool) (hc : Try.prog.cellsOf t = 1)
    (h : DataW.trod enc Try.prog w base spare held fuel t ((cs.drop o).take (Try.prog.cellsOf t)) = some x) : IsB cs.toArray o := by
  obtain ⟨n, h1, _⟩ := DataW.trod_bool hu h
  rw [hc] at h1
  have h2 := congrArg (fun l => l[0]?) h1
  simp [List.getElem?_take, List.getElem?_drop] at h2
  exact IsB_of (by simpa using h2)
theorem ord_trod {fuel : Nat} {cs : List Value} {x : DataW H × List MemPlace} (h : DataW.trod enc Try.prog w base spare held fuel 41 cs = some x) : IsOrd cs.toArray := by
  obtain ⟨hl, n, hf⟩ := fields Try.underlying41 h
  have hc : Try.prog.cellsOf 41 = 5 := by kernel_rfl
  have c2 : Try.prog.cellsOf 2 = 1 := by kernel_rfl
  have c3 : Try.prog.cellsOf 39 = 1 := by kernel_rfl
  have c4 : Try.prog.cellsOf 25 = 1 := by kernel_rfl
  have c5 : Try.prog.cellsOf 4 = 1 := by kernel_rfl
  obtain ⟨_, y0⟩ := hf 0 _ rfl
  obtain ⟨_, y1⟩ := hf 1 _ rfl
  obtain ⟨_, y2⟩ := hf 2 _ rfl
  obtain ⟨_, y3⟩ := hf 3 _ rfl
  obtain ⟨_, y4⟩ := hf 4 _ rfl
  exact ⟨by simpa [hc] using hl, leaf Try.underlying39 c3 y0, leaf Try.underlying25 c4 y1, leafB Try.underlying4 c5 y2, leaf Try.underlying2 c2 y3, leaf Try.underlying2 c2 y4⟩

/-- elements of a slice that came in: they lie in one block, one behind the other -/
theorem rows_cells {a : Addr} {n c : Nat} {C : Nat → List Value} (hc0 : 0 < c) (h : ∀ i, i < n → w.cells? 0 (a.add (i * c)) c = some (C i)) :
    ∀ i, i < n → ∃ g off A t fr, some a = some (⟨g, off, none⟩ : Addr) ∧ w.heap[g]? = some (.cells A t fr) ∧ off + i * c + c ≤ A.size ∧ A.extract (off + i * c) (off + i * c + c) = (C i).toArray := by
  intro i hi
  have hc : ∀ i, i < n → ∀ j, j < c → w.cell? (a.add (i * c + j)) = (C i)[j]? ∧ (C i).length = c := fun i hi j hj => by
    obtain ⟨_, h2, h3⟩ := World.cells?_some (h i hi)
    rw [← h3 j hj, add_add]
    exact ⟨rfl, h2⟩
  obtain ⟨b, o, sp⟩ := a
  have h0 := hc 0 (by omega) 0 (by omega)
  have hl0 := h0.2
  have h00 : w.cell? ⟨b, o, sp⟩ = some ((C 0)[0]'(by omega)) := by
    have := h0.1
    simp only [Nat.zero_mul, Nat.add_zero] at this
    rw [show (⟨b, o, sp⟩ : Addr).add 0 = ⟨b, o, sp⟩ from rfl] at this
    rw [this]
    exact List.getElem?_eq_getElem _
  unfold World.cell? at h00
  cases hb : w.heap[b]? with
  | none => simp [hb] at h00
  | some ob =>
    cases ob with
    | cells A t fr =>
      simp only [hb] at h00
      cases sp with
      | some s => simp at h00
      | none =>
        have hA : ∀ i, i < n → ∀ j, j < c → A[o + i * c + j]? = (C i)[j]? := fun i hi j hj => by
          rw [← (hc i hi j hj).1]
          have : (⟨b, o, none⟩ : Addr).add (i * c + j) = ⟨b, o + i * c + j, none⟩ := by unfold Addr.add; split <;> simp_all; omega
          rw [this, cellF hb]
        have hs : o + i * c + c ≤ A.size := by
          have h1 := hA i hi (c - 1) (by omega)
          rw [List.getElem?_eq_getElem (by rw [(hc i hi 0 (by omega)).2]; omega)] at h1
          have := (Array.getElem?_eq_some_iff.1 h1).1
          omega
        refine ⟨b, o, A, t, fr, rfl, hb, hs, ?_⟩
        apply Array.ext_getElem?
        intro j
        rw [Array.getElem?_extract]
        by_cases hj : j < c
        · rw [if_pos (by omega), hA i hi j hj]; simp
        · rw [if_neg (by omega)]
          symm
          simp
          rw [(hc i hi 0 (by omega)).2]; omega
    | _ => simp [hb] at h00

theorem ords_trod {fuel : Nat} {cs : List Value} {x : DataW H × List MemPlace} (h : DataW.trod enc Try.prog w 0 spare held fuel 31 cs = some x) :
    ∃ (a : Option Addr) (n cap : Nat) (L : Nat → Array Value), cs = [.slice a n cap] ∧ n ≤ cap ∧ cap ≤ 9223372036854775807 ∧ (∀ i, IsOrd (L i)) ∧ Ords w a n L ∧ (a = none → n = 0 ∧ cap = 0) := by
  rcases open_slice Try.underlying31 h with ⟨hc, _⟩ | ⟨a', n, cap, m', f, D, Pl, hc, _, hl, hmx, hmm, _, hx⟩
  · exact ⟨none, 0, 0, fun _ => #[.int .u64 0, .int .u32 0, .bool false, .int .i64 0, .int .i64 0], hc, by omega, by omega, fun _ => z5_ord, fun i hi => by omega, fun _ => ⟨rfl, rfl⟩⟩
  · have hlm : n ≤ m' := by rw [hmm]; split <;> omega
    have c45 : Try.prog.cellsOf 41 = 5 := by kernel_rfl
    rw [c45] at hx
    obtain ⟨C, hC⟩ := choose_lt (α := List Value) (n := n) (p := fun i cs => w.cells? 0 (a'.add (i * 5)) 5 = some cs ∧ DataW.trod enc Try.prog w 0 spare held f 41 cs = some (D i, Pl i)) (fun i hi => hx i (by omega))
    have hr : Ords w (some a') n (fun i => (C i).toArray) := rows_cells (by omega) (fun i hi => (hC i hi).1)
    refine ⟨some a', n, cap, fun i => if i < n then (C i).toArray else #[.int .u64 0, .int .u32 0, .bool false, .int .i64 0, .int .i64 0], hc, hl, by unfold maxLen at hmx; omega, fun i => ?_, hr.congr (fun i hi => by simp [hi]), fun h => by cases h⟩
    simp only
    split
    · rename_i hi
      exact ord_trod (hC i hi).2
    · exact z5_ord

theorem leg_take {cs : List Value} : ((cs.drop 0).take 26).toArray = cs.toArray.extract 0 26 := by simp
theorem stk_trod {fuel : Nat} {cs : List Value} {x : DataW H × List MemPlace} (h : DataW.trod enc Try.prog w 0 spare held fuel 33 cs = some x) :
    IsStk cs.toArray ∧ ∃ (a : Option Addr) (n c : Nat) (O : Nat → Array Value), cs.toArray[28]? = some (.slice a n c) ∧ n ≤ c ∧ c ≤ 9223372036854775807 ∧ (∀ i, IsOrd (O i)) ∧ Ords w a n O ∧ (a = none → n = 0 ∧ c = 0) := by
  obtain ⟨hl, n, hf⟩ := fields Try.underlying33 h
  have hc : Try.prog.cellsOf 33 = 29 := by kernel_rfl
  have c2 : Try.prog.cellsOf 2 = 1 := by kernel_rfl
  have c26 : Try.prog.cellsOf 30 = 26 := by kernel_rfl
  have c1 : Try.prog.cellsOf 31 = 1 := by kernel_rfl
  obtain ⟨_, y0⟩ := (show ∃ y, DataW.trod enc Try.prog w 0 spare held n 30 ((cs.drop 0).take (Try.prog.cellsOf 30)) = some y from hf 0 _ rfl)
  rw [c26] at y0
  obtain ⟨_, y1⟩ := hf 1 _ rfl
  obtain ⟨_, y2⟩ := hf 2 _ rfl
  obtain ⟨_, y3⟩ := (show ∃ y, DataW.trod enc Try.prog w 0 spare held n 31 ((cs.drop 28).take (Try.prog.cellsOf 31)) = some y from hf 3 _ rfl)
  rw [c1] at y3
  have h0 := leg_trod y0
  rw [leg_take] at h0
  obtain ⟨a, m, c, O, e, e2⟩ := ords_trod y3
  have h28 : cs.toArray[28]? = some (.slice a m c) := by
    have h2 := congrArg (fun l => l[0]?) e
    simp [List.getElem?_take, List.getElem?_drop] at h2
    simpa using h2
  exact ⟨⟨by simpa [hc] using hl, h0, leaf Try.underlying2 c2 y1, leaf Try.underlying2 c2 y2, a, m, c, h28⟩, a, m, c, O, h28, e2⟩

/-- A slice of stakes that came in. -/
theorem stks_of {r : Reach} {b : Nat} {v : Value} {d : DataW H} {p : List MemPlace} (hv : Value.okWide Try.prog w r b 22 v) (h : DataW.Trod enc Try.prog w 0 spare held 22 v d p) :
    ∃ (a : Option Addr) (n cap : Nat) (S : Nat → Array Value) (O : Nat → Nat → Array Value) (m : Nat → Nat), v = .slice a n cap ∧ n ≤ cap ∧ cap ≤ 9223372036854775807 ∧ (∀ i, IsStk (S i)) ∧ (∀ i k, IsOrd (O i k)) ∧ Stks w a n S O m ∧ (a = none → n = 0 ∧ cap = 0) := by
  obtain ⟨m, hm⟩ := h
  obtain ⟨a, n, cap, rfl⟩ : ∃ a n cap, v = .slice a n cap := by
    unfold Value.okWide Cell.okWide at hv
    simp only [Try.underlying22] at hv
    unfold Cell.ok at hv
    simp only [Try.underlying22] at hv
    cases v <;> simp_all
  refine ⟨a, n, cap, ?_⟩
  rcases open_slice Try.underlying22 hm with ⟨hc, _⟩ | ⟨a', len, cap', m', f, D, Pl, hc, _, hl, hmx, hmm, _, hx⟩
  · simp [Value.cells] at hc
    obtain ⟨rfl, rfl, rfl⟩ := hc
    exact ⟨fun _ => z29, fun _ _ => #[.int .u64 0, .int .u32 0, .bool false, .int .i64 0, .int .i64 0], fun _ => 0, rfl, by omega, by omega, fun _ => z29_stk, fun _ _ => z5_ord, ⟨fun i hi => by omega, fun i hi => by omega⟩, fun _ => ⟨rfl, rfl⟩⟩
  · simp [Value.cells] at hc
    obtain ⟨rfl, rfl, rfl⟩ := hc
    have hlm : n ≤ m' := by rw [hmm]; split <;> omega
    have c45 : Try.prog.cellsOf 33 = 29 := by kernel_rfl
    rw [c45] at hx
    obtain ⟨C, hC⟩ := choose_lt (α := List Value × Option Addr × Nat × Nat × (Nat → Array Value)) (n := n)
      (p := fun i q => w.cells? 0 (a'.add (i * 29)) 29 = some q.1 ∧ IsStk q.1.toArray ∧ q.1.toArray[28]? = some (.slice q.2.1 q.2.2.1 q.2.2.2.1) ∧ q.2.2.1 ≤ q.2.2.2.1 ∧ q.2.2.2.1 ≤ 9223372036854775807 ∧ (∀ i, IsOrd (q.2.2.2.2 i)) ∧ Ords w q.2.1 q.2.2.1 q.2.2.2.2 ∧ (q.2.1 = none → q.2.2.1 = 0 ∧ q.2.2.2.1 = 0)) (fun i hi => by
        obtain ⟨cs, h1, h2⟩ := hx i (by omega)
        obtain ⟨h3, a, k, c, O, h4⟩ := stk_trod h2
        exact ⟨⟨cs, a, k, c, O⟩, h1, h3, h4⟩)
    have hr := rows_cells (w := w) (a := a') (n := n) (c := 29) (C := fun i => (C i).1) (by omega) (fun i hi => (hC i hi).1)
    refine ⟨fun i => if i < n then (C i).1.toArray else z29, fun i k => if i < n then (C i).2.2.2.2 k else #[.int .u64 0, .int .u32 0, .bool false, .int .i64 0, .int .i64 0], fun i => (C i).2.2.1, rfl, hl, by unfold maxLen at hmx; omega, fun i => ?_, fun i k => ?_, ⟨fun i hi => ?_, fun i hi => ?_⟩, fun h => by cases h⟩
    · simp only
      split
      · rename_i hi
        exact (hC i hi).2.1
      · exact z29_stk
    · simp only
      split
      · rename_i hi
        exact (hC i hi).2.2.2.2.2.1 k
      · exact z5_ord
    · simp only [hi, if_true]
      exact hr i hi
    · obtain ⟨_, _, h1, h2, h3, h4, h5, h6⟩ := hC i hi
      refine ⟨(C i).2.1, (C i).2.2.2.1, ?_, ?_, h2, h3, h6⟩
      · simp only [hi, if_true]; exact h1
      · simp only [hi, if_true]; exact h5
end
end Go.Proofs.Ytnpjclodcgejgaa
