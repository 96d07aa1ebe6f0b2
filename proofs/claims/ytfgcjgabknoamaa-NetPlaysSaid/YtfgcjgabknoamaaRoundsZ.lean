/- A range over a function whose rounds come, and grow a row of their own; the iterator reads what no round changes. No condition. -/
import Derived.Test.YtfgcjgabknoamaaRoundsR
namespace Go.Proofs.Ytfgcjgabknoamaa
set_option linter.unusedVariables false
set_option linter.unusedSimpArgs false
open Go.RowKit Go.Shelf

/-- the iterator gf yields encs 0, encs 1, .. up to k, unless it is stopped -/
def SeqZ (P : Program) (gf : Nat) (lb : Array Value) (encs : Nat → Array Value) (k s : Nat) (Z : World → Prop) (w : World) : Prop :=
  ∀ (l : Nat) (J : Nat × Option Nat → World → Prop) (Jx : Nat → World → Prop) (W : World), Below w.heap.size w W → AbidesFrom W.heap.size J → AbidesFrom W.heap.size Jx → (∀ p W1, J p W1 → Z W1) →
    (∀ j r W1, j < k → J (j, r) W1 → YieldAt Fence.wide 7 P l (encs j) W1 fun e W' => (e = .returned (.bool true) ∧ W1.heap.size ≤ W'.heap.size ∧ ∃ r', J (j + 1, r') W' ∧ KnR s r W1 W' ∧ RowTo W1 r r') ∨ (e = .returned (.bool false) ∧ Jx (j + 1) W')) →
    J (0, none) W → CallsIn Fence.wide 8 P gf (#[.func (.yield l) #[] #[]] ++ lb) W fun e W' => (∃ v, e = .returned v) ∧ ((∃ r, J (k, r) W') ∨ ∃ j, j ≤ k ∧ Jx j W')

theorem range_roundsZ {P : Program} {g : Operand} {ps : Array Tmp} {assign body : Code} {Q : Exit → Act → World → Prop} {a : Act} {w : World} {gf : Nat} {lb : Array Value} {encs : Nat → Array Value} {k : Nat}
    (hg : a.eval g = .func (.func gf) #[] lb) (eg : ∀ args w, (callFunc gf args).run P w = .ok (.enter gf args) w) (hps : ∀ x, (encs x).size = ps.size) {Z : World → Prop} (hit : SeqZ P gf lb encs k w.heap.size Z w)
    (I : Nat × Option Nat → World → Prop) (Ix : Code → Nat → World → Prop) (hI : OwnFrom w.heap.size I) (hIx : ∀ c, OwnFrom w.heap.size (Ix c)) (hZ : ∀ p W, I p W → Z W) (h0 : I (0, none) w)
    (up : Nat → World → World) (hup : ∀ (j : Nat) (W : World), W.grownBy (up j W) none) (a₁ : Nat → World → Act)
    (hassign : ∀ l j W (K : Act → World → Prop), j < k → K (a₁ j W) (up j W) → assign.wpIn (Fence.wide.inRound l) 7 P (Exit.then K (fun _ _ _ => False)) { tmps := (ps.zip (encs j)).foldl (fun t (p, v) => t.setIfInBounds p v) a.tmps, defers := [] } W)
    (hbody : ∀ (l j : Nat) (r : Option Nat) (W0 W : World), j < k → I (j, r) W → w.heap.size ≤ W0.heap.size → (∀ (i : Nat) c t fr, (up j W0).heap[i]? = some (Obj.cells c t fr) → W.heap[i]? = some (Obj.cells c t fr)) → W.heap.size = (up j W0).heap.size → body.wpIn (Fence.wide.inRound l) 7 P (rndPostR w.heap.size I Ix j r W) (a₁ j W0) W)
    (hdone : ∀ D r W, w.heap.size ≤ D → I (k, r) W → W.heap[D]? = some (.deferred (some [])) → Q .normal { a with defers := { target := .collected D, args := #[] } :: a.defers } W)
    (hstop : ∀ D c j W, w.heap.size ≤ D → j ≤ k → Ix c j W → W.heap[D]? = some (.deferred (some [])) → c.wp P Q { a with defers := { target := .collected D, args := #[] } :: a.defers } W) :
    (Code.rangeFunc g ps assign body).wp P Q a w := by
  refine (wpIn_wide (n := 9)).1 (wpIn_rangeFunc fun fn _ => ?_)
  obtain ⟨R, hR⟩ : ∃ R : LoopState → Option Code → Loop, R = fun st pe => { state := st, pending := pe, fn, tmps := a.tmps, params := ps, assign, body, defers := w.heap.size } := ⟨_, rfl⟩
  have r1 : ∀ st pe, (R st pe).state = st := fun _ _ => by rw [hR]
  have r2 : ∀ st pe st' pe', { R st pe with state := st', pending := pe' } = R st' pe' := fun _ _ _ _ => by rw [hR]
  have r3 : ∀ st pe st', { R st pe with state := st' } = R st' pe := fun _ _ _ => by rw [hR]
  obtain ⟨W1, hW1⟩ : ∃ W1, W1 = (w.alloc (.deferred (some []))).alloc (.loop (R .ready none)) := ⟨_, rfl⟩
  have hsz : W1.heap.size = w.heap.size + 2 := by rw [hW1]; simp
  have hbk : Books w.heap.size (R .ready none) W1 := by
    rw [hW1]
    refine ⟨?_, (Below.heap_alloc _ _ _ (by simp)).trans (World.alloc_heap_new w _)⟩
    have := World.alloc_heap_new (w.alloc (.deferred (some []))) (.loop (R .ready none))
    rwa [World.size_alloc] at this
  have hI1 : I (0, none) W1 := by rw [hW1]; exact hI.alloc _ (hI.alloc _ h0)
  have hb1 : Below w.heap.size w W1 := by rw [hW1]; exact (((Below.refl _ w).alloc (Nat.le_refl _) _).alloc (by simp) _)
  have turn : ∀ {A : World} {row : Option Nat}, (∀ i, row = some i → W1.heap.size ≤ i ∧ ∃ o : Obj, A.heap[i]? = some o ∧ o.isWalk = true) → ∀ i, row = some i → w.heap.size ≤ i ∧ ∃ o : Obj, A.heap[i]? = some o ∧ o.isCells = false := fun h i e => by
    obtain ⟨h1, o, h2, h3⟩ := h i e
    exact ⟨by omega, o, h2, Obj.not_cells_of_walk h3⟩
  refine ⟨w.heap.size + 1, [{ target := .collected w.heap.size, args := #[] }], W1, { target := .fn (.func gf) lb, args := #[.func (.yield (w.heap.size + 1)) #[] #[]] }, W1, gf,
    #[.func (.yield (w.heap.size + 1)) #[] #[]] ++ lb, W1, ?_, ?_, fun _ _ => trivial, ?_, by simp, ?_⟩
  · rw [hW1, hR]; exact run_enterLoop_outer _ _ _ _ _
  · simp only [resolve, hg]
    simp [go_sem]
  · simp [invoke, go_sem, eg]
  refine (hit (w.heap.size + 1) (fun j W => I j W ∧ Books w.heap.size (R .ready none) W) (fun j W => ∃ c, Ix c j W ∧ Books w.heap.size (R .done (some c)) W) W1 hb1
    (fun j A B row h hg' hr => ⟨hI j A B row h.1 hg' (turn (A := A) hr), h.2.grown hg' (fun i e => by have := (hr i e).1; omega)⟩)
    (fun j A B row ⟨c, h1, h2⟩ hg' hr => ⟨c, hIx c j A B row h1 hg' (turn (A := A) hr), h2.grown hg' (fun i e => by have := (hr i e).1; omega)⟩)
    (fun p W h => hZ p W h.1) (fun j r W hj ⟨hi, hb⟩ => ?_) ⟨hI1, hbk⟩).mono ?_
  · have hy := run_yield (P := P) (args := encs j) hb.1 (by rw [hR]; exact hps j)
    rw [hR] at hy
    have hgu := hup j W
    have hbu := hb.grown (row := none) hgu (fun i e => by cases e)
    have hiu := hI (j, r) W _ none hi hgu (fun i e => by cases e)
    have hlt := (Array.getElem?_eq_some_iff.1 hb.1).1
    refine ⟨fn, _, assign, body, hy, roundIn_of_wpIn trivial (hassign _ j W _ hj ⟨_, run_beginRound hbu.1 (r1 _ _), ?_⟩)⟩
    rw [r3]
    have hk1 : KnR w.heap.size r W ((up j W).putObj (w.heap.size + 1) (.loop (R .busy none))) :=
      KnR.trans (Kn.toR (fun i c t fr _ h => (hgu.block i (Array.getElem?_eq_some_iff.1 h).1 (by simp)).trans h)) (Kn.toR (kn_put _ _ _ _ hbu.1 rfl))
    have hiv := hI.putObj (.loop (R .busy none)) hiu (by omega) hbu.1 rfl
    have hbv := hbu.put (R .busy none)
    have fin : ∀ (c : Option Code) (W3 : World), KeepsOthers ((up j W).putObj (w.heap.size + 1) (.loop (R .busy none))) W3 →
        (Instr.endRound (w.heap.size + 1) c).run P W3 = .ok (.bool c.isNone) (W3.putObj (w.heap.size + 1) (.loop (R (if c.isNone then .ready else .done) c))) ∧ Books w.heap.size (R .busy none) W3 := fun c W3 hk => by
      have h3 := hbv.keep hk
      have := run_endRound (P := P) c h3.1
      rw [r2] at this
      exact ⟨this, h3⟩
    refine wpIn_mono (hbody _ j r W _ hj hiv (by omega) (fun i c t fr h => put_other hbu.1 h (fun e => by subst e; rw [hbu.1] at h; cases h)) (by simp)) ?_
    have out : ∀ (c : Code) (W3 : World), KeepsOthers ((up j W).putObj (w.heap.size + 1) (.loop (R .busy none))) W3 → Ix c (j + 1) W3 → ∃ v w', (Instr.endRound (w.heap.size + 1) (some c)).run P W3 = .ok v w' ∧
        ((Ending.returned v = .returned (.bool true) ∧ W.heap.size ≤ w'.heap.size ∧ ∃ r', (I (j + 1, r') w' ∧ Books w.heap.size (R .ready none) w') ∧ KnR w.heap.size r W w' ∧ RowTo W r r') ∨ (Ending.returned v = .returned (.bool false) ∧ ∃ c', Ix c' (j + 1) w' ∧ Books w.heap.size (R .done (some c')) w')) := fun c W3 hk hx => by
      obtain ⟨hr, h3⟩ := fin (some c) W3 hk
      exact ⟨_, _, hr, .inr ⟨rfl, c, (hIx c).putObj _ hx (by omega) h3.1 rfl, h3.put _⟩⟩
    rintro e a3 W3 hp
    cases e with
    | normal =>
      obtain ⟨hk, r', hkn, hrt, hi3⟩ := hp
      obtain ⟨hr, h3⟩ := fin none W3 hk
      exact ⟨_, _, hr, .inl ⟨rfl, by have h1 := hgu.size; have h2 := hk.size; simp at h2 ⊢; omega, r', ⟨hI.putObj _ hi3 (by omega) h3.1 rfl, h3.put _⟩, (hk1.trans hkn).trans (Kn.toR (kn_put _ _ _ _ h3.1 rfl)), by
        rcases hrt with e | ⟨i, e, hi⟩
        · exact .inl e
        · exact .inr ⟨i, e, by have h1 := hgu.size; simp at hi; omega⟩⟩⟩
    | ret => exact out .ret W3 hp.1 hp.2
    | exit id => exact out (.exit id) W3 hp.1 hp.2
    | goto t => exact out (.goto t) W3 hp.1 hp.2
    | panic ch => exact hp.elim
    | outgrown => exact hp.elim
  · rintro e W2 ⟨⟨v, rfl⟩, ⟨r, hi, hb⟩ | ⟨j, hj, c, hx, hb⟩⟩
    · refine ⟨none, _, ?_, hdone _ r _ (Nat.le_refl _) (hI.putObj (.loop (R .exhausted none)) hi (by omega) hb.1 rfl) (hb.put (R .exhausted none)).2⟩
      have := run_endLoop (P := P) hb.1 (by rw [r1]; simp)
      rw [r3] at this
      rw [this, hR]
    · refine ⟨some c, _, ?_, wpIn_wide.2 (hstop _ c j _ (Nat.le_refl _) hj ((hIx c).putObj (.loop (R .exhausted (some c))) hx (by omega) hb.1 rfl) (hb.put (R .exhausted (some c))).2)⟩
      have := run_endLoop (P := P) hb.1 (by rw [r1]; simp)
      rw [r3] at this
      rw [this, hR]
end Go.Proofs.Ytfgcjgabknoamaa
