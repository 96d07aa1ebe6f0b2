/- One bid more, plainly; orders appended to an own row. Condition: the numbers fit their kinds. -/
import Derived.Test.YtoglcgijgckdaaaTwo8
import Derived.Laws.AppendOwnNone
namespace Go.Proofs.Ytoglcgijgckdaaa
set_option linter.unusedVariables false
set_option linter.unusedSimpArgs false
open Go.RowKit

/-- a row with one more at place k -/
def insR (L : Nat → Array Value) (k : Nat) (M : Array Value) (i : Nat) : Array Value := if i < k then L i else if i = k then M else L (i - 1)
theorem ins_sg {L : Nat → Array Value} {k : Nat} {M : Array Value} (F : Array Value → Int) : ∀ n, k ≤ n → sg (fun i => F (insR L k M i)) (n + 1) = sg (fun i => F (L i)) n + F M := by
  have h1 : ∀ m, m ≤ k → sg (fun i => F (insR L k M i)) m = sg (fun i => F (L i)) m := fun m hm => sg_congr m (fun i hi => by simp only [insR, if_pos (show i < k by omega)])
  intro n
  induction n with
  | zero =>
    intro hk
    obtain rfl : k = 0 := by omega
    simp [sg, insR]
  | succ n ih =>
    intro hk
    by_cases e : k = n + 1
    · subst e
      rw [sg, h1 (n + 1) (by omega)]
      simp [insR]
    · rw [sg, ih (by omega), sg]
      have : insR L k M (n + 1) = L n := by unfold insR; rw [if_neg (by omega), if_neg (by omega), Nat.add_sub_cancel]
      rw [this]; omega
theorem flat_append (A : Nat → Array Value) (n : Nat) : ∀ m, flat A (n + m) = flat A n ++ flat (fun j => A (n + j)) m
  | 0 => by simp [flat]
  | m + 1 => by rw [← Nat.add_assoc, flat, flat_append A n m, flat, List.append_assoc]
theorem insR_ord {L : Nat → Array Value} {k : Nat} {M : Array Value} (hL : ∀ i, IsOrd (L i)) (hM : IsOrd M) (i : Nat) : IsOrd (insR L k M i) := by
  unfold insR; split
  · exact hL i
  · split
    · exact hM
    · exact hL _
theorem insR_flat (L : Nat → Array Value) (k n : Nat) (M : Array Value) (hk : k ≤ n) : flat L k ++ M.toList ++ flat (fun j => L (k + j)) (n - k) = flat (insR L k M) (n + 1) := by
  rw [show n + 1 = (k + 1) + (n - k) by omega, flat_append]
  congr 1
  · rw [flat]
    congr 1
    · exact flat_congr k (fun i hi => by unfold insR; rw [if_pos hi])
    · unfold insR; rw [if_neg (by omega), if_pos rfl]
  · exact flat_congr _ (fun i hi => by unfold insR; rw [if_neg (by omega), if_neg (by omega)]; congr 1; omega)
section
variable {sells : Bool} {Q : Int} {n : Nat} {L : Nat → Array Value} {d t : Nat → Nat}
theorem Auc.fills (h : Auc sells Q n L d t) : sg (gv Q (vS L d)) (nf Q (vS L d) n) = min Q (sg (fun i => N (L i) 4) n) := by
  rw [sg_tail n (nf_le n) (fun r h1 h2 => gv_out (by have := h.q1; omega) h.v0 h1 h2), sg_got (by have := h.q1; omega) n h.v0]
  have e3 := sg_perm h.p (fun i => N (L i) 4)
  rw [← e3]; rfl
theorem Auc.fill_bd (h : Auc sells Q n L d t) {k : Nat} (hk : k ≤ nf Q (vS L d) n) : 0 ≤ sg (gv Q (vS L d)) k ∧ sg (gv Q (vS L d)) k ≤ Q := by
  have hle := nf_le (Q := Q) (v := vS L d) n
  have h1 := sg_pos (f := gv Q (vS L d)) k (fun r hr => h.gv0 (by omega))
  have h2 := lft_pos (Q := Q) (v := vS L d) (by have := h.q1; omega) k (fun i hi => h.v0 i (by omega))
  rw [sg_gv] at h1 ⊢
  omega
/-- those at c or better -/
def upTo (sells : Bool) (L : Nat → Array Value) (c : Int) (i : Nat) : Int := if keyS sells L i ≤ c then N (L i) 4 else 0
theorem Auc.up_lo (h : Auc sells Q n L d t) {c : Int} {k : Nat} (hk : k ≤ n) (hc : ∀ r, r < k → keyS sells L (d r) ≤ c) : sg (vS L d) k ≤ sg (upTo sells L c) n := by
  rw [← sg_perm h.p (upTo sells L c)]
  have e : sg (vS L d) k = sg (fun r => upTo sells L c (d r)) k := sg_congr k (fun r hr => by unfold upTo vS; rw [if_pos (hc r hr)])
  rw [e]
  exact sg_mono n hk (fun r _ hr => by
    unfold upTo
    split
    · exact h.v0 r hr
    · omega)
theorem Auc.up_hi (h : Auc sells Q n L d t) {c : Int} {k : Nat} (hk : k ≤ n) (hc : ∀ r, k ≤ r → r < n → c < keyS sells L (d r)) : sg (upTo sells L c) n ≤ sg (vS L d) k := by
  rw [← sg_perm h.p (upTo sells L c)]
  have e : sg (fun r => upTo sells L c (d r)) k = sg (fun r => upTo sells L c (d r)) n := sg_tail n hk (fun r h1 h2 => by unfold upTo; rw [if_neg (by have := hc r h1 h2; omega)])
  rw [← e]
  exact sg_le k (fun r hr => by
    unfold upTo
    split
    · exact Int.le_refl _
    · exact h.v0 r (by omega))
/-- the price is no worse with one bid more, if all was sold without it -/
theorem more_price {k : Nat} {M : Array Value} {d' t' : Nat → Nat} (h : Auc sells Q n L d t) (h' : Auc sells Q (n + 1) (insR L k M) d' t') (hk : k ≤ n) (ha : sg (gv Q (vS L d)) (nf Q (vS L d) n) = Q) :
    0 < nf Q (vS L d) n ∧ 0 < nf Q (vS (insR L k M) d') (n + 1) ∧ keyS sells (insR L k M) (d' (nf Q (vS (insR L k M) d') (n + 1) - 1)) ≤ keyS sells L (d (nf Q (vS L d) n - 1)) := by
  have hle := nf_le (Q := Q) (v := vS L d) n
  have hq := h.q1
  have hm : 0 < nf Q (vS L d) n := by
    apply Classical.byContradiction
    intro h0
    obtain e : nf Q (vS L d) n = 0 := by omega
    rw [e] at ha
    simp [sg] at ha
    omega
  have hm' := nf_pos (Q := Q) (v := vS (insR L k M) d') (n := n + 1) (by omega) (by omega) h'.v0
  have hle' := nf_le (Q := Q) (v := vS (insR L k M) d') (n + 1)
  refine ⟨hm, hm', ?_⟩
  apply Classical.byContradiction
  intro hn
  have l1 := h.up_lo (c := keyS sells L (d (nf Q (vS L d) n - 1))) (k := nf Q (vS L d) n) hle (fun r hr => by
    by_cases e : r = nf Q (vS L d) n - 1
    · rw [e]; exact Int.le_refl _
    · have := h.s r (nf Q (vS L d) n - 1) (by omega) (by omega) (by omega)
      unfold ltK at this; omega)
  have l2 := sg_le (f := gv Q (vS L d)) (g := vS L d) (nf Q (vS L d) n) (fun r hr => (gv_bd (by omega) h.v0 (show r < n by omega)).2)
  have l3 := h'.up_hi (c := keyS sells L (d (nf Q (vS L d) n - 1))) (k := nf Q (vS (insR L k M) d') (n + 1) - 1) (by omega) (fun r h1 h2 => by
    by_cases e : r = nf Q (vS (insR L k M) d') (n + 1) - 1
    · rw [e]; omega
    · have := h'.s (nf Q (vS (insR L k M) d') (n + 1) - 1) r (by omega) (by omega) h2
      unfold ltK at this; omega)
  have l4 := ins_sg (L := L) (k := k) (M := M) (fun A => if (if sells then -(N A 3) else N A 3) ≤ keyS sells L (d (nf Q (vS L d) n - 1)) then N A 4 else 0) n hk
  have l4' : sg (upTo sells (insR L k M) (keyS sells L (d (nf Q (vS L d) n - 1)))) (n + 1) = sg (upTo sells L (keyS sells L (d (nf Q (vS L d) n - 1)))) n + (if (if sells then -(N M 3) else N M 3) ≤ keyS sells L (d (nf Q (vS L d) n - 1)) then N M 4 else 0) := l4
  have l5 : 0 ≤ (if (if sells then -(N M 3) else N M 3) ≤ keyS sells L (d (nf Q (vS L d) n - 1)) then N M 4 else 0) := by
    have e : insR L k M k = M := by unfold insR; rw [if_neg (by omega), if_pos rfl]
    have := (h'.bd (i := k) (by omega)).2
    rw [e] at this
    split <;> omega
  have l6 := (nf_in (Q := Q) (v := vS (insR L k M) d') (k := nf Q (vS (insR L k M) d') (n + 1) - 1) (by omega) (n + 1) h'.v0 (by omega)).2
  rw [lft_eq (by omega) _ (fun i hi => h'.v0 i (by omega))] at l6
  omega
end
/-- orders appended to an own row, as one step of a region that draws its order -/
theorem op_append_rows {o : Oper} {a : Act} {w : World} {K : Act → World → Prop} {Q : Exit → Act → World → Prop} (s x : Operand)
    (ho : o.op = .call { callee := .builtin .append, args := #[s, x], argTypes := #[22, 22] })
    (base : Nat) (v : Value) (n : Nat) (xs : List Value) (hs : a.eval s = v) (hown : w.ownsRow base 31 5 v n xs)
    (ad : Option Addr) (m c : Nat) (L : Nat → Array Value) (hL : ∀ i, IsOrd (L i)) (hx : a.eval x = .slice ad m c) (hl : RowsC w 5 ad m L) (hnil : ad = none → m = 0 ∧ c = 0)
    (hn : n ≤ 100000) (hm : m ≤ 100000) (hbase : base ≤ w.heap.size)
    (h : ∀ v' w', w'.ownsRow base 31 5 v' (n + m) (xs ++ flat L m) → w.grownBy w' v.ownBlock → K (a.put o.dst v') w') : o.wp Try.prog a w K Q := by
  obtain ⟨i, z, h1, h2, h3, h4, h5⟩ := info_ord
  cases ad with
  | none =>
    obtain ⟨rfl, rfl⟩ := hnil rfl
    have hrun := run_append_owned_none (P := Try.prog) (w := w) base _ o.type _ i 5 Try.underlying22 h1 v n xs hown
    unfold Oper.wp execOp
    simp only [ho, resolve, invoke, builtin, Sem.run_bind, Sem.run_pure, Result.andThen_ok, List.map_toArray, List.map_cons, List.map_nil, hs, hx, hrun]
    exact h v w (by simpa [flat] using hown) ⟨rfl, rfl, rfl, Nat.le_refl _, fun _ _ _ => rfl⟩
  | some ad =>
    refine wp_append_own w s x _ ho base _ i z 5 i.bytes Try.underlying22 h1 h2 h3 rfl h5 (by omega) v n xs hs hown ad m c (flat L m) hx (flatc_len (fun i => (hL i).size) m) (rows_at (by omega) (fun i => (hL i).size) hl) (flatc_one (fun i => (hL i).all) m) (by unfold maxLen; omega) ?_ hbase ?_
    · have := Nat.mul_le_mul (show n + m ≤ 200000 by omega) h4
      omega
    · intro v' w' h6 h7 _
      exact h v' w' h6 h7
end Go.Proofs.Ytoglcgijgckdaaa
