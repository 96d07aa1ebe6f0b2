/- A range over a function whose rounds come: the plain walk goes on behind it. The loop's variable may be a new block in each round. No condition. -/
import Derived.Test.YtmjfbilhalkegaaKn
namespace Go.Proofs.Ytmjfbilhalkegaa
set_option linter.unusedVariables false
set_option linter.unusedSimpArgs false
open Go.RowKit Go.Shelf

/-- the iterator gf yields encs 0, encs 1, .. up to k, unless it is stopped -/
def SeqK (P : Program) (gf : Nat) (lb : Array Value) (encs : Nat → Array Value) (k s : Nat) (w : World) : Prop :=
  ∀ (l : Nat) (J Jx : Nat → World → Prop) (W : World), Below w.heap.size w W → AbidesFrom W.heap.size J → AbidesFrom W.heap.size Jx →
    (∀ j W1, j < k → J j W1 → YieldAt Fence.wide 7 P l (encs j) W1 fun e W' => (e = .returned (.bool true) ∧ J (j + 1) W' ∧ Kn s W1 W') ∨ (e = .returned (.bool false) ∧ Jx (j + 1) W')) →
    J 0 W → CallsIn Fence.wide 8 P gf (#[.func (.yield l) #[] #[]] ++ lb) W fun e W' => (∃ v, e = .returned v) ∧ (J k W' ∨ ∃ j, j ≤ k ∧ Jx j W')

/-- how a round may end -/
def rndPost (s : Nat) (I : Nat → World → Prop) (Ix : Code → Nat → World → Prop) (j : Nat) (W : World) : Exit → Act → World → Prop
  | .normal, _, W' => KeepsOthers W W' ∧ Kn s W W' ∧ I (j + 1) W'
  | .ret, _, W' => KeepsOthers W W' ∧ Ix .ret (j + 1) W'
  | .exit id, _, W' => KeepsOthers W W' ∧ Ix (.exit id) (j + 1) W'
  | .goto t, _, W' => KeepsOthers W W' ∧ Ix (.goto t) (j + 1) W'
  | .panic _, _, _ => False
  | .outgrown, _, _ => False

/-- the book-keeping's two blocks -/
def Books (s : Nat) (r : Loop) (W : World) : Prop := W.heap[s + 1]? = some (.loop r) ∧ W.heap[s]? = some (.deferred (some []))
theorem Books.keep {s : Nat} {r : Loop} {W W' : World} (h : Books s r W) (hk : KeepsOthers W W') : Books s r W' := ⟨hk.same _ _ h.1 rfl, hk.same _ _ h.2 rfl⟩
theorem Books.put {s : Nat} {r : Loop} (r' : Loop) {W : World} (h : Books s r W) : Books s r' (W.putObj (s + 1) (.loop r')) :=
  ⟨World.putObj_heap_same (Array.getElem?_eq_some_iff.1 h.1).1, (World.putObj_heap_other (by omega)).trans h.2⟩
theorem Books.grown {s : Nat} {r : Loop} {W W' : World} {row : Option Nat} (h : Books s r W) (hg : W.grownBy W' row) (hr : ∀ i, row = some i → s + 2 ≤ i) : Books s r W' :=
  ⟨(hg.block _ (Array.getElem?_eq_some_iff.1 h.1).1 (fun e => by have := hr _ e.symm; omega)).trans h.1, (hg.block _ (Array.getElem?_eq_some_iff.1 h.2).1 (fun e => by have := hr _ e.symm; omega)).trans h.2⟩

theorem range_rounds {P : Program} {g : Operand} {ps : Array Tmp} {assign body : Code} {Q : Exit → Act → World → Prop} {a : Act} {w : World} {gf : Nat} {lb : Array Value} {encs : Nat → Array Value} {k : Nat}
    (hg : a.eval g = .func (.func gf) #[] lb) (eg : ∀ args w, (callFunc gf args).run P w = .ok (.enter gf args) w) (hps : ∀ x, (encs x).size = ps.size) (hit : SeqK P gf lb encs k w.heap.size w)
    (I : Nat → World → Prop) (Ix : Code → Nat → World → Prop) (hI : OwnFrom w.heap.size I) (hIx : ∀ c, OwnFrom w.heap.size (Ix c)) (h0 : I 0 w)
    (up : Nat → World → World) (hup : ∀ (j : Nat) (W : World), W.grownBy (up j W) none) (a₁ : Nat → World → Act)
    (hassign : ∀ l j W (K : Act → World → Prop), j < k → K (a₁ j W) (up j W) → assign.wpIn (Fence.wide.inRound l) 7 P (Exit.then K (fun _ _ _ => False)) { tmps := (ps.zip (encs j)).foldl (fun t (p, v) => t.setIfInBounds p v) a.tmps, defers := [] } W)
    (hbody : ∀ (l j : Nat) (W0 W : World), j < k → I j W → w.heap.size ≤ W0.heap.size → (∀ (i : Nat) c t fr, (up j W0).heap[i]? = some (Obj.cells c t fr) → W.heap[i]? = some (Obj.cells c t fr)) → W.heap.size = (up j W0).heap.size → body.wpIn (Fence.wide.inRound l) 7 P (rndPost w.heap.size I Ix j W) (a₁ j W0) W)
    (hdone : ∀ D W, w.heap.size ≤ D → I k W → W.heap[D]? = some (.deferred (some [])) → Q .normal { a with defers := { target := .collected D, args := #[] } :: a.defers } W)
    (hstop : ∀ D c j W, w.heap.size ≤ D → j ≤ k → Ix c j W → W.heap[D]? = some (.deferred (some [])) → c.wp P Q { a with defers := { target := .collected D, args := #[] } :: a.defers } W) :
    (Code.rangeFunc g ps assign body).wp P Q a w := by
  refine (wpIn_wide (n := 9)).1 (wpIn_rangeFunc fun fn _ => ?_)
  obtain ⟨R, hR⟩ : ∃ R : LoopState → Option Code → Loop, R = fun st pe => { state := st, pending := pe, fn, tmps := a.tmps, params := ps, assign, body, defers := w.heap.size } := ⟨_, rfl⟩
  have r1 : ∀ st pe, (R st pe).state = st := fun _ _ => by rw [hR]
  have r2 : ∀ st pe st' pe', { R st pe with state := st', pending := pe' } = R st' pe' := fun _ _ _ _ => by rw [hR]
  have r3 : ∀ st pe st', { R st pe with state := st' } = R st' pe := fun _ _ _ => by rw [hR]
  obtain ⟨W1, hW1⟩ : ∃ W1, W1 = (w.alloc (.deferred (some []))).alloc (.loop (R .ready none)) := ⟨_, rfl⟩
  have hsz : W1.heap.size = w.heap.size + 2 := by rw [hW1]; simp
  have hbk : Books w.heap.size (R .ready none) W1 := by
    rw [hW1]
    refine ⟨?_, (Below.heap_alloc _ _ _ (by simp)).trans (World.alloc_heap_new w _)⟩
    have := World.alloc_heap_new (w.alloc (.deferred (some []))) (.loop (R .ready none))
    rwa [World.size_alloc] at this
  have hI1 : I 0 W1 := by rw [hW1]; exact hI.alloc _ (hI.alloc _ h0)
  have hb1 : Below w.heap.size w W1 := by rw [hW1]; exact (((Below.refl _ w).alloc (Nat.le_refl _) _).alloc (by simp) _)
  have turn : ∀ {A : World} {row : Option Nat}, (∀ i, row = some i → W1.heap.size ≤ i ∧ ∃ o : Obj, A.heap[i]? = some o ∧ o.isWalk = true) → ∀ i, row = some i → w.heap.size ≤ i ∧ ∃ o : Obj, A.heap[i]? = some o ∧ o.isCells = false := fun h i e => by
    obtain ⟨h1, o, h2, h3⟩ := h i e
    exact ⟨by omega, o, h2, Obj.not_cells_of_walk h3⟩
  refine ⟨w.heap.size + 1, [{ target := .collected w.heap.size, args := #[] }], W1, { target := .fn (.func gf) lb, args := #[.func (.yield (w.heap.size + 1)) #[] #[]] }, W1, gf,
    #[.func (.yield (w.heap.size + 1)) #[] #[]] ++ lb, W1, ?_, ?_, fun _ _ => trivial, ?_, by simp, ?_⟩
  · rw [hW1, hR]; exact run_enterLoop_outer _ _ _ _ _
  · simp only [resolve, hg]
    simp [go_sem]
  · simp [invoke, go_sem, eg]
  refine (hit (w.heap.size + 1) (fun j W => I j W ∧ Books w.heap.size (R .ready none) W) (fun j W => ∃ c, Ix c j W ∧ Books w.heap.size (R .done (some c)) W) W1 hb1
    (fun j A B row h hg' hr => ⟨hI j A B row h.1 hg' (turn (A := A) hr), h.2.grown hg' (fun i e => by have := (hr i e).1; omega)⟩)
    (fun j A B row ⟨c, h1, h2⟩ hg' hr => ⟨c, hIx c j A B row h1 hg' (turn (A := A) hr), h2.grown hg' (fun i e => by have := (hr i e).1; omega)⟩)
    (fun j W hj ⟨hi, hb⟩ => ?_) ⟨hI1, hbk⟩).mono ?_
  · have hy := run_yield (P := P) (args := encs j) hb.1 (by rw [hR]; exact hps j)
    rw [hR] at hy
    have hgu := hup j W
    have hbu := hb.grown (row := none) hgu (fun i e => by cases e)
    have hiu := hI j W _ none hi hgu (fun i e => by cases e)
    have hlt := (Array.getElem?_eq_some_iff.1 hb.1).1
    refine ⟨fn, _, assign, body, hy, roundIn_of_wpIn trivial (hassign _ j W _ hj ⟨_, run_beginRound hbu.1 (r1 _ _), ?_⟩)⟩
    rw [r3]
    have hk1 : Kn w.heap.size W ((up j W).putObj (w.heap.size + 1) (.loop (R .busy none))) :=
      Kn.trans (fun i c t fr _ h => (hgu.block i (Array.getElem?_eq_some_iff.1 h).1 (by simp)).trans h) (kn_put _ _ _ _ hbu.1 rfl)
    have hiv := hI.putObj (.loop (R .busy none)) hiu (by omega) hbu.1 rfl
    have hbv := hbu.put (R .busy none)
    have fin : ∀ (c : Option Code) (W3 : World), KeepsOthers ((up j W).putObj (w.heap.size + 1) (.loop (R .busy none))) W3 →
        (Instr.endRound (w.heap.size + 1) c).run P W3 = .ok (.bool c.isNone) (W3.putObj (w.heap.size + 1) (.loop (R (if c.isNone then .ready else .done) c))) ∧ Books w.heap.size (R .busy none) W3 := fun c W3 hk => by
      have h3 := hbv.keep hk
      have := run_endRound (P := P) c h3.1
      rw [r2] at this
      exact ⟨this, h3⟩
    refine wpIn_mono (hbody _ j W _ hj hiv (by omega) (fun i c t fr h => put_other hbu.1 h (fun e => by subst e; rw [hbu.1] at h; cases h)) (by simp)) ?_
    have out : ∀ (c : Code) (W3 : World), KeepsOthers ((up j W).putObj (w.heap.size + 1) (.loop (R .busy none))) W3 → Ix c (j + 1) W3 → ∃ v w', (Instr.endRound (w.heap.size + 1) (some c)).run P W3 = .ok v w' ∧
        ((Ending.returned v = .returned (.bool true) ∧ (I (j + 1) w' ∧ Books w.heap.size (R .ready none) w') ∧ Kn w.heap.size W w') ∨ (Ending.returned v = .returned (.bool false) ∧ ∃ c', Ix c' (j + 1) w' ∧ Books w.heap.size (R .done (some c')) w')) := fun c W3 hk hx => by
      obtain ⟨hr, h3⟩ := fin (some c) W3 hk
      exact ⟨_, _, hr, .inr ⟨rfl, c, (hIx c).putObj _ hx (by omega) h3.1 rfl, h3.put _⟩⟩
    rintro e a3 W3 hp
    cases e with
    | normal =>
      obtain ⟨hk, hkn, hi3⟩ := hp
      obtain ⟨hr, h3⟩ := fin none W3 hk
      exact ⟨_, _, hr, .inl ⟨rfl, ⟨hI.putObj _ hi3 (by omega) h3.1 rfl, h3.put _⟩, (hk1.trans hkn).trans (kn_put _ _ _ _ h3.1 rfl)⟩⟩
    | ret => exact out .ret W3 hp.1 hp.2
    | exit id => exact out (.exit id) W3 hp.1 hp.2
    | goto t => exact out (.goto t) W3 hp.1 hp.2
    | panic ch => exact hp.elim
    | outgrown => exact hp.elim
  · rintro e W2 ⟨⟨v, rfl⟩, ⟨hi, hb⟩ | ⟨j, hj, c, hx, hb⟩⟩
    · refine ⟨none, _, ?_, hdone _ _ (Nat.le_refl _) (hI.putObj (.loop (R .exhausted none)) hi (by omega) hb.1 rfl) (hb.put (R .exhausted none)).2⟩
      have := run_endLoop (P := P) hb.1 (by rw [r1]; simp)
      rw [r3] at this
      rw [this, hR]
    · refine ⟨some c, _, ?_, wpIn_wide.2 (hstop _ c j _ (Nat.le_refl _) hj ((hIx c).putObj (.loop (R .exhausted (some c))) hx (by omega) hb.1 rfl) (hb.put (R .exhausted (some c))).2)⟩
      have := run_endLoop (P := P) hb.1 (by rw [r1]; simp)
      rw [r3] at this
      rw [this, hR]
end Go.Proofs.Ytmjfbilhalkegaa
