/- Two rows of orders that grow side by side; an auction turned. Condition: the numbers fit their kinds. -/
import Derived.Test.YtoglcgijgckdaaaFairP8
import Derived.Test.YtoglcgijgckdaaaKn8
namespace Go.Proofs.Ytoglcgijgckdaaa
set_option linter.unusedVariables false
set_option linter.unusedSimpArgs false
open Go.RowKit

theorem op_append_row1_at {o : Oper} {a : Act} {w : World} {K : Act → World → Prop} {Q : Exit → Act → World → Prop} {E S : TypeId} {c : Nat} {X : Array Value} (s x : Operand)
    (ho : o.op = .call { callee := .builtin .append, args := #[s, x], argTypes := #[S, S] }) (hS : Try.prog.underlying S = some (.slice E))
    (hi : ∃ i z, Try.prog.info? E = some i ∧ i.zero = some z ∧ i.size = c ∧ i.bytes ≤ 1000 ∧ z.cells.size = c) (hc : 0 < c) (hX : X.size = c) (hXa : X.all (·.oneCell') = true)
    (base : Nat) (v : Value) (n : Nat) (xs : List Value) (hs : a.eval s = v) (hown : w.ownsRow base E c v n xs) (gs : Nat) (hx : a.eval x = .slice (some ⟨gs, 0, none⟩) 1 1) (hg : w.heap[gs]? = some (.cells X E (0, 0))) (hn : n ≤ 100000000) (hbase : base ≤ w.heap.size)
    (h : ∀ v' w', w'.ownsRow base E c v' (n + 1) (xs ++ X.toList) → w.grownBy w' v.ownBlock → (v'.ownBlock = v.ownBlock ∨ v'.ownBlock = some w.heap.size) → K (a.put o.dst v') w') : o.wp Try.prog a w K Q := by
  obtain ⟨i, z, h1, h2, h3, h4, h5⟩ := hi
  have hb := Nat.mul_le_mul (show n + 1 ≤ 100000001 by omega) h4
  obtain ⟨v', w', hr, e1, e2, _, e3⟩ := run_append_own_at (P := Try.prog) w base S o.type E i z c i.bytes hS h1 h2 h3 rfl h5 hc v n xs hown ⟨gs, 0, none⟩ 1 1 X.toList (by simp [hX]) (fun j u hj => by
    have e : (⟨gs, 0, none⟩ : Addr).add j = ⟨gs, j, none⟩ := by unfold Addr.add; split <;> simp_all
    rw [e, cellF hg]
    simpa using hj) (fun u hu => by
    rw [Array.all_eq_true'] at hXa
    exact hXa u (by simpa using hu)) (by unfold maxLen; omega) (by omega) hbase
  unfold Oper.wp execOp
  simp only [ho, resolve, invoke, builtin, Sem.run_bind, Sem.run_pure, Result.andThen_ok, List.map_toArray, List.map_cons, List.map_nil, hs, hx, hr]
  exact h v' w' e1 e2 e3
theorem info_ord1 : ∃ i z, Try.prog.info? 31 = some i ∧ i.zero = some z ∧ i.size = 5 ∧ i.bytes ≤ 1000 ∧ z.cells.size = 5 := by
  obtain ⟨i, z, h1, h2, h3, h4, h5⟩ := info_ord
  exact ⟨i, z, h1, h2, h3, by omega, h5⟩
/-- two own rows side by side -/
structure Two (w0 w : World) (i k : Nat) (A B : Nat → Array Value) (va vb : Value) : Prop where
  a : w.ownsRow w0.heap.size 31 5 va i (flat A i)
  b : w.ownsRow w0.heap.size 31 5 vb k (flat B k)
  ne : ∀ q, va.ownBlock = some q → vb.ownBlock ≠ some q
  be : Below w0.heap.size w0 w
section
variable {w0 w w' : World} {i k : Nat} {A B : Nat → Array Value} {va vb v' : Value}
theorem Two.below (h : Two w0 w i k A B va vb) (hb : Below w.heap.size w w') : Two w0 w' i k A B va vb :=
  ⟨own_below hb h.a, own_below hb h.b, h.ne, h.be.trans (hb.mono h.be.size)⟩
theorem flat_next (A : Nat → Array Value) (i : Nat) : flat A (i + 1) = flat A i ++ (A i).toList := rfl
/-- the first one grows -/
theorem Two.one (h : Two w0 w i k A B va vb) (ho : w'.ownsRow w0.heap.size 31 5 v' (i + 1) (flat A i ++ (A i).toList)) (hg : w.grownBy w' va.ownBlock) (hat : v'.ownBlock = va.ownBlock ∨ v'.ownBlock = some w.heap.size) : Two w0 w' (i + 1) k A B v' vb := by
  refine ⟨ho, h.b.kept hg ?_, fun q hq e => ?_, h.be.grown hg h.be.size (fun q e => (h.a.lt q e).1)⟩
  · cases e : vb.ownBlock with
    | none => exact .inl rfl
    | some q => exact .inr (fun e2 => h.ne q e2.symm e)
  · rcases hat with e1 | e1
    · exact h.ne q (e1.symm.trans hq) e
    · rw [e1] at hq
      injection hq with hq
      have := (h.b.lt q e).2
      omega
theorem Two.swap (h : Two w0 w i k A B va vb) : Two w0 w k i B A vb va := ⟨h.b, h.a, fun q e1 e2 => h.ne q e2 e1, h.be⟩
end
/-- an order that buys, and one that sells at the price turned -/
def oB (A : Array Value) : Array Value := A.setIfInBounds 2 (.bool true)
def oS (A : Array Value) : Array Value := (A.setIfInBounds 2 (.bool false)).setIfInBounds 3 (.int .i64 (1001 - N A 3))
theorem N_sne {A : Array Value} {i j : Nat} {v : Value} (h : i ≠ j) : N (A.setIfInBounds i v) j = N A j := by unfold N; rw [Array.getElem?_setIfInBounds_ne h]
theorem IsN.sne {A : Array Value} {k : IntKind} {i j : Nat} {v : Value} (h : IsN A k j) (hij : i ≠ j) : IsN (A.setIfInBounds i v) k j := by
  unfold IsN at h ⊢
  rw [N_sne hij, Array.getElem?_setIfInBounds_ne hij]
  exact h
theorem oB_ord {A : Array Value} (h : IsOrd A) : IsOrd (oB A) :=
  ⟨by simp [oB, h.size], h.n.sne (by omega), h.a.sne (by omega), IsB_of (b := true) (by unfold oB; rw [Array.getElem?_setIfInBounds_self_of_lt (by rw [h.size]; omega)]), h.p.sne (by omega), h.l.sne (by omega)⟩
theorem oS_ord {A : Array Value} (h : IsOrd A) (hp : 1 ≤ N A 3 ∧ N A 3 ≤ 1000) : IsOrd (oS A) :=
  ⟨by simp [oS, h.size], (h.n.sne (by omega)).sne (by omega), (h.a.sne (by omega)).sne (by omega), by
    have h1 : (A.setIfInBounds 2 (.bool false))[2]? = some (.bool false) := Array.getElem?_setIfInBounds_self_of_lt (by rw [h.size]; omega)
    refine IsB_of (b := false) ?_
    unfold oS; rw [Array.getElem?_setIfInBounds_ne (by omega)]; exact h1,
    IsN_of (n := 1001 - N A 3) (by unfold oS; rw [Array.getElem?_setIfInBounds_self_of_lt (by simp [h.size])]) (by show -9223372036854775808 ≤ _ ∧ _ ≤ 9223372036854775807; omega), (h.l.sne (by omega)).sne (by omega)⟩
theorem oB_N (A : Array Value) {j : Nat} (hj : j ≠ 2) : N (oB A) j = N A j := N_sne (Ne.symm hj)
theorem oS_N (A : Array Value) {j : Nat} (hj : j ≠ 2) (hj3 : j ≠ 3) : N (oS A) j = N A j := by unfold oS; rw [N_sne (Ne.symm hj3), N_sne (Ne.symm hj)]
theorem oS_3 {A : Array Value} (h : IsOrd A) : N (oS A) 3 = 1001 - N A 3 := by
  unfold oS N; rw [Array.getElem?_setIfInBounds_self_of_lt (by simp [h.size])]
theorem oB_2 {A : Array Value} (h : IsOrd A) : Bo (oB A) 2 = true := by
  unfold oB Bo; rw [Array.getElem?_setIfInBounds_self_of_lt (by rw [h.size]; omega)]
theorem oS_2 {A : Array Value} (h : IsOrd A) : Bo (oS A) 2 = false := by
  have h1 : (A.setIfInBounds 2 (.bool false))[2]? = some (.bool false) := Array.getElem?_setIfInBounds_self_of_lt (by rw [h.size]; omega)
  unfold oS Bo; rw [Array.getElem?_setIfInBounds_ne (by omega), h1]
section
variable {L : Nat → Array Value} {n : Nat} {Q : Int}
theorem turn_may (hL : ∀ i, IsOrd (L i)) (hp : ∀ i, i < n → 1 ≤ N (L i) 3 ∧ N (L i) 3 ≤ 1000) : smay true (fun i => oB (L i)) n = smay false (fun i => oS (L i)) n := by
  rw [Bool.eq_iff_iff, smay_iff, smay_iff]
  have e : ∀ i, i < n → (okO (oB (L i)) = true ↔ okO (oS (L i)) = true) := fun i hi => by
    rw [okO_iff, okO_iff, oB_N _ (j := 0) (by omega), oB_N _ (j := 1) (by omega), oB_N _ (j := 3) (by omega), oB_N _ (j := 4) (by omega), oS_N _ (j := 0) (by omega) (by omega), oS_N _ (j := 1) (by omega) (by omega), oS_N _ (j := 4) (by omega) (by omega), oS_3 (hL i)]
    have := hp i hi
    omega
  constructor
  · intro h i hi
    obtain ⟨a, _, c⟩ := h i hi
    refine ⟨(e i hi).1 a, oS_2 (hL i), fun j hj => ?_⟩
    have := c j hj
    simp only [oB_N _ (show (0 : Nat) ≠ 2 by omega)] at this
    simp only [oS_N _ (show (0 : Nat) ≠ 2 by omega) (show (0 : Nat) ≠ 3 by omega)]
    exact this
  · intro h i hi
    obtain ⟨a, _, c⟩ := h i hi
    refine ⟨(e i hi).2 a, oB_2 (hL i), fun j hj => ?_⟩
    have := c j hj
    simp only [oS_N _ (show (0 : Nat) ≠ 2 by omega) (show (0 : Nat) ≠ 3 by omega)] at this
    simp only [oB_N _ (show (0 : Nat) ≠ 2 by omega)]
    exact this
theorem turn_E (hL : ∀ i, IsOrd (L i)) (hp : ∀ i, i < n → 1 ≤ N (L i) 3 ∧ N (L i) 3 ≤ 1000) : clE true Q (fun i => oB (L i)) n = clE false Q (fun i => oS (L i)) n := by
  unfold clE; rw [turn_may hL hp]
/-- both auctions fill alike -/
theorem turn_same (hL : ∀ i, IsOrd (L i)) {d d' : Nat → Nat} (p : PermOn 0 n id d) (s : Srt (keyS true (fun i => oB (L i))) 0 n d) (p' : PermOn 0 n id d') (s' : Srt (keyS false (fun i => oS (L i))) 0 n d') :
    nf Q (vS (fun i => oB (L i)) d) n = nf Q (vS (fun i => oS (L i)) d') n ∧ (∀ k, k < n → fillA Q (fun i => oB (L i)) d k = fillA Q (fun i => oS (L i)) d' k) ∧ (0 < nf Q (vS (fun i => oB (L i)) d) n → prc (fun i => oB (L i)) d (nf Q (vS (fun i => oB (L i)) d) n) = 1001 - prc (fun i => oS (L i)) d' (nf Q (vS (fun i => oS (L i)) d') n)) := by
  have hk : ∀ x, keyS false (fun i => oS (L i)) x = 1001 + keyS true (fun i => oB (L i)) x := fun x => by
    unfold keyS
    simp only [if_true, Bool.false_eq_true, if_false]
    rw [oS_3 (hL x), oB_N _ (by omega)]
    omega
  have s2 : Srt (keyS true (fun i => oB (L i))) 0 n d' := fun i j h1 h2 h3 => by
    have := s' i j h1 h2 h3
    unfold ltK at this ⊢
    rw [hk, hk] at this
    omega
  have hd := srt_one p s p' s2
  have hv : ∀ i, i < n → vS (fun i => oS (L i)) d' i = vS (fun i => oB (L i)) d i := fun i hi => by
    unfold vS
    simp only
    rw [hd i hi, oB_N _ (by omega), oS_N _ (by omega) (by omega)]
  have hn := nf_congr (Q := Q) n hv
  refine ⟨hn.symm, fun k hk => ?_, fun h => ?_⟩
  · unfold fillA
    simp only
    rw [gv_congr (Q := Q) k (fun i hi => hv i (by omega)), hd k hk, oB_N _ (j := 0) (by omega), oB_N _ (j := 1) (by omega), oS_N _ (j := 0) (by omega) (by omega), oS_N _ (j := 1) (by omega) (by omega)]
  · rw [hn]
    have hle := nf_le (Q := Q) (v := vS (fun i => oB (L i)) d) n
    unfold prc
    rw [if_neg (by omega), if_neg (by omega)]
    simp only
    rw [hd _ (by omega), oB_N _ (by omega), oS_3 (hL _)]
    omega
end
end Go.Proofs.Ytoglcgijgckdaaa
