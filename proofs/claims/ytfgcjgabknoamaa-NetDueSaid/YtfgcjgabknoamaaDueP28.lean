/- What NetDue keeps, in plain words: every mail that lies there was sent, is seen by nobody yet, and is no older than said. No condition. -/
import Derived.Test.YtfgcjgabknoamaaTake
namespace Go.Proofs.Ytfgcjgabknoamaa
set_option linter.unusedVariables false
set_option linter.unusedSimpArgs false
open Go.RowKit Go.Deep

/-- integers that can be read -/
def Ints (w : World) (a : Option Addr) (n : Nat) (Z : Nat → Int) : Prop := ∀ i, i < n → ∃ g off A t fr, a = some ⟨g, off, none⟩ ∧ w.heap[g]? = some (.cells A t fr) ∧ A[off + i]? = some (.int .i64 (Z i))
theorem Ints.kept {w w1 : World} {a : Option Addr} {n : Nat} {Z : Nat → Int} (h : Ints w a n Z) (hb : Below w.heap.size w w1) : Ints w1 a n Z := fun i hi => by
  obtain ⟨g, off, A, t, fr, h1, h2, h3⟩ := h i hi
  exact ⟨g, off, A, t, fr, h1, Ytfgcjgabknoamaa.kept hb h2, h3⟩
section
variable {H : Type} {enc : TypeId × Value → H} {w : World} {base : Nat} {spare : Nat → Bool} {held : Bool}
theorem ints_cells {a : Addr} {n : Nat} {Z : Nat → Int} (h : ∀ i, i < n → w.cell? (a.add i) = some (.int .i64 (Z i))) : Ints w (some a) n Z := by
  intro i hi
  obtain ⟨b, o, sp⟩ := a
  have h00 := h 0 (by omega)
  rw [show (⟨b, o, sp⟩ : Addr).add 0 = ⟨b, o, sp⟩ from rfl] at h00
  unfold World.cell? at h00
  cases hb : w.heap[b]? with
  | none => simp [hb] at h00
  | some ob =>
    cases ob with
    | cells A t fr =>
      simp only [hb] at h00
      cases sp with
      | some s => simp at h00
      | none =>
        have hA := h i hi
        have : (⟨b, o, none⟩ : Addr).add i = ⟨b, o + i, none⟩ := by unfold Addr.add; split <;> simp_all
        rw [this, cellF hb] at hA
        exact ⟨b, o, A, t, fr, rfl, hb, hA⟩
    | _ => simp [hb] at h00
def F64 (z : Int) : Prop := -9223372036854775808 ≤ z ∧ z ≤ 9223372036854775807
set_option maxRecDepth 100000 in
theorem ints_of {r : Reach} {b : Nat} {v : Value} {d : DataW H} {p : List MemPlace} (hv : Value.okWide Try.prog w r b 33 v) (h : DataW.Trod enc Try.prog w 0 spare held 33 v d p) :
    ∃ (a : Option Addr) (n cap : Nat) (Z : Nat → Int), v = .slice a n cap ∧ n ≤ cap ∧ cap ≤ 9223372036854775807 ∧ (∀ i, F64 (Z i)) ∧ Ints w a n Z ∧ (a = none → n = 0 ∧ cap = 0) := by
  obtain ⟨m, hm⟩ := h
  obtain ⟨a, n, cap, rfl⟩ : ∃ a n cap, v = .slice a n cap := by
    unfold Value.okWide Cell.okWide at hv
    simp only [Try.underlying33] at hv
    unfold Cell.ok at hv
    simp only [Try.underlying33] at hv
    cases v <;> simp_all
  refine ⟨a, n, cap, ?_⟩
  have c1 : Try.prog.cellsOf 3 = 1 := by kernel_rfl
  rcases open_slice1 Try.underlying33 c1 hm with ⟨hc, _⟩ | ⟨a', len, cap', m', f, V, D, Pl, hc, _, hl, hmx, hmm, _, hx⟩
  · simp [Value.cells] at hc
    obtain ⟨rfl, rfl, rfl⟩ := hc
    exact ⟨fun _ => 0, rfl, by omega, by omega, fun _ => by show F64 0; unfold F64; omega, fun i hi => by omega, fun _ => ⟨rfl, rfl⟩⟩
  · simp [Value.cells] at hc
    obtain ⟨rfl, rfl, rfl⟩ := hc
    have hlm : n ≤ m' := by rw [hmm]; split <;> omega
    obtain ⟨Z, hZ⟩ := choose_lt (α := Int) (n := n) (p := fun i z => w.cell? (a'.add i) = some (.int .i64 z) ∧ F64 z) (fun i hi => by
      obtain ⟨h1, h2⟩ := hx i (by omega)
      obtain ⟨z, h3, _, h4⟩ := DataW.trod_int Try.underlying3 h2
      injection h3 with h3
      refine ⟨z, by rw [h1, h3], ?_⟩
      simpa [Lit.wf, F64, IntKind.min, IntKind.max, IntKind.signed, IntKind.bits] using h4)
    refine ⟨fun i => if i < n then Z i else 0, rfl, hl, by unfold maxLen at hmx; omega, fun i => ?_, ints_cells (fun i hi => by simp only [hi, if_true]; exact (hZ i hi).1), fun h => by cases h⟩
    simp only
    split
    · rename_i hi; exact (hZ i hi).2
    · unfold F64; omega
end

/-- what is kept of k mails, so many of which were sent; b bounds the ages -/
structure DP (k sent : Nat) (b : Int) (F Ag : Nat → Int) (Ln : Nat → Nat) (X : Nat → Nat → Int) (sb : Nat → Bool) : Prop where
  m : ∀ j, j < k → ∃ f : Nat, F j = f ∧ f < sent ∧ sb f = false ∧ Ln j = 1 ∧ X j 0 = f
  inj : ∀ i j, i < k → j < k → F i = F j → i = j
  old : ∀ j, j < k → Ag j ≤ b
  new_ : ∀ f, sent ≤ f → sb f = false
  ks : k ≤ sent
  s2 : sent ≤ 200
theorem DP.start (b : Int) : DP 0 0 b (fun _ => 0) (fun _ => 0) (fun _ => 0) (fun _ _ => 0) (fun _ => false) :=
  ⟨fun j hj => by omega, fun i j hi => by omega, fun j hj => by omega, fun _ _ => rfl, Nat.le_refl _, by omega⟩
theorem DP.send {k sent : Nat} {b : Int} {F Ag : Nat → Int} {Ln : Nat → Nat} {X : Nat → Nat → Int} {sb : Nat → Bool} (h : DP k sent b F Ag Ln X sb) (hs : sent < 200) (hb : 0 ≤ b) :
    DP (k + 1) (sent + 1) b (fun i => if i = k then (sent : Int) else F i) (fun i => if i = k then 0 else Ag i) (fun i => if i = k then 1 else Ln i) (fun i => if i = k then (fun _ => (sent : Int)) else X i) sb where
  m := fun j hj => by
    by_cases e : j = k
    · refine ⟨sent, by simp [e], by omega, h.new_ _ (Nat.le_refl _), by simp [e], by simp [e]⟩
    · obtain ⟨f, h1, h2, h3, h4, h5⟩ := h.m j (by omega)
      exact ⟨f, by simp [e, h1], by omega, h3, by simp [e, h4], by simp [e, h5]⟩
  inj := fun i j hi hj he => by
    replace he : (if i = k then (sent : Int) else F i) = (if j = k then (sent : Int) else F j) := he
    by_cases e1 : i = k <;> by_cases e2 : j = k
    · omega
    · obtain ⟨f, h1, h2, _⟩ := h.m j (by omega)
      rw [if_pos e1, if_neg e2, h1] at he
      omega
    · obtain ⟨f, h1, h2, _⟩ := h.m i (by omega)
      rw [if_neg e1, if_pos e2, h1] at he
      omega
    · rw [if_neg e1, if_neg e2] at he
      exact h.inj i j (by omega) (by omega) he
  old := fun j hj => by
    show (if j = k then (0 : Int) else Ag j) ≤ b
    by_cases e : j = k
    · rw [if_pos e]; exact hb
    · rw [if_neg e]; exact h.old j (by omega)
  new_ := fun f hf => h.new_ f (by omega)
  ks := by have := h.ks; omega
  s2 := by omega
theorem DP.take {k sent i f : Nat} {b : Int} {F Ag : Nat → Int} {Ln : Nat → Nat} {X : Nat → Nat → Int} {sb : Nat → Bool} (h : DP k sent b F Ag Ln X sb) (hi : i < k) (hf : F i = f) :
    DP (k - 1) sent b (sk F i) (sk Ag i) (sk Ln i) (sk X i) (fun x => if x = f then true else sb x) := by
  have key : ∀ j, j < k - 1 → ∃ j', j' < k ∧ j' ≠ i ∧ sk F i j = F j' ∧ sk Ag i j = Ag j' ∧ sk Ln i j = Ln j' ∧ sk X i j = X j' ∧ j' = (if j < i then j else j + 1) := fun j hj => by
    unfold sk
    by_cases e : j < i
    · exact ⟨j, by omega, by omega, by simp [e], by simp [e], by simp [e], by simp [e], by simp [e]⟩
    · exact ⟨j + 1, by omega, by omega, by simp [e], by simp [e], by simp [e], by simp [e], by simp [e]⟩
  refine ⟨fun j hj => ?_, fun a c ha hc he => ?_, fun j hj => ?_, fun x hx => ?_, by have := h.ks; omega, h.s2⟩
  · obtain ⟨j', h1, h2, e1, e2, e3, e4, _⟩ := key j hj
    obtain ⟨f', m1, m2, m3, m4, m5⟩ := h.m j' h1
    refine ⟨f', by rw [e1, m1], m2, ?_, by rw [e3, m4], by rw [e4, m5]⟩
    rw [if_neg (fun e => h2 (h.inj j' i h1 hi (by rw [m1, hf, e])))]
    exact m3
  · obtain ⟨a', h1, _, e1, _, _, _, ea⟩ := key a ha
    obtain ⟨c', h2, _, e2, _, _, _, ec⟩ := key c hc
    rw [e1, e2] at he
    have := h.inj a' c' h1 h2 he
    rw [ea, ec] at this
    split at this <;> split at this <;> omega
  · obtain ⟨j', h1, _, _, e2, _⟩ := key j hj
    rw [e2]; exact h.old j' h1
  · obtain ⟨f', m1, m2, _⟩ := h.m i hi
    have : f' = f := by rw [m1] at hf; omega
    show (if x = f then true else sb x) = false
    rw [if_neg (by omega)]
    exact h.new_ x hx
theorem du_all {Ag : Nat → Int} {x : Int} : ∀ k, du Ag x k < 0 → ∀ j, j < k → Ag j < x
  | 0, _, j, hj => by omega
  | k + 1, h, j, hj => by
    rw [du] at h
    by_cases h1 : 0 ≤ du Ag x k
    · rw [if_pos h1] at h; omega
    · rw [if_neg h1] at h
      by_cases h2 : x ≤ Ag k
      · rw [if_pos h2] at h; omega
      · by_cases e : j = k
        · subst e; omega
        · exact du_all k (by omega) j (by omega)
theorem du_at {Ag : Nat → Int} {x : Int} : ∀ k, 0 ≤ du Ag x k → ∃ j : Nat, du Ag x k = j ∧ j < k
  | 0, h => by simp [du] at h
  | k + 1, h => by
    rw [du] at h ⊢
    by_cases h1 : 0 ≤ du Ag x k
    · rw [if_pos h1]
      obtain ⟨j, h2, h3⟩ := du_at k h1
      exact ⟨j, h2, by omega⟩
    · rw [if_neg h1] at h ⊢
      by_cases h2 : x ≤ Ag k
      · rw [if_pos h2]; exact ⟨k, rfl, by omega⟩
      · rw [if_neg h2] at h; omega
theorem DP.tick {k sent : Nat} {b : Int} {F Ag : Nat → Int} {Ln : Nat → Nat} {X : Nat → Nat → Int} {sb : Nat → Bool} (h : DP k sent b F Ag Ln X sb) (hd : du Ag b k < 0) : DP k sent b F (fun i => tk (Ag i)) Ln X sb :=
  ⟨h.m, h.inj, fun j hj => by have := du_all k hd j hj; show tk (Ag j) ≤ b; unfold tk; split <;> omega, h.new_, h.ks, h.s2⟩
end Go.Proofs.Ytfgcjgabknoamaa
