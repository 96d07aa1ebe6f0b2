/- Appends of bytes and of the document's puts, as steps of a region that draws its order. No condition. -/
import Derived.Test.YtfgcjgabknoamaaRt28
import Derived.Deep.RegionHeld3
namespace Go.Proofs.Ytfgcjgabknoamaa
set_option linter.unusedVariables false
set_option linter.unusedSimpArgs false
open Go.RowKit Go.Deep

/-- 'append(own, bytes...)' -/
theorem op_append_byt {o : Oper} {a : Act} {w : World} {K : Act → World → Prop} {Q : Exit → Act → World → Prop} (s x : Operand)
    (ho : o.op = .call { callee := .builtin .append, args := #[s, x], argTypes := #[22, 22] })
    (base : Nat) (v : Value) (hs : a.eval s = v) (hown : w.ownsRow base 5 1 v 0 [])
    (ad : Option Addr) (n c : Nat) (X : Nat → Int) (hx : a.eval x = .slice ad n c) (hX : Byt w ad n X) (hnil : ad = none → n = 0 ∧ c = 0)
    (hn : n ≤ 100000000) (hbase : base ≤ w.heap.size)
    (h : ∀ v' w', w'.ownsRow base 5 1 v' n (bl X n) → w.grownBy w' v.ownBlock → K (a.put o.dst v') w') : o.wp Try.prog a w K Q := by
  obtain ⟨i, z, h1, h2, h3, h4, h5⟩ := info_u8
  cases ad with
  | none =>
    obtain ⟨rfl, rfl⟩ := hnil rfl
    have hrun := run_append_owned_none (P := Try.prog) (w := w) base _ o.type _ i 1 Try.underlying22 h1 v 0 [] hown
    unfold Oper.wp execOp
    simp only [ho, resolve, invoke, builtin, Sem.run_bind, Sem.run_pure, Result.andThen_ok, List.map_toArray, List.map_cons, List.map_nil, hs, hx, hrun]
    exact h v w hown ⟨rfl, rfl, rfl, Nat.le_refl _, fun _ _ _ => rfl⟩
  | some ad =>
    refine wp_append_own w s x _ ho base _ i z 1 1 Try.underlying22 h1 h2 h3 h4 h5 (by omega) v 0 [] hs hown ad n c (bl X n) hx (by rw [bl_len]; omega) (fun j u hj => ?_) (bl_one X n) (by unfold maxLen; omega) (by omega) hbase ?_
    · have hjn : j < n := by rw [← bl_len X n]; exact (List.getElem?_eq_some_iff.1 hj).1
      obtain ⟨g, off, A, t, fr, ha, hg, hA⟩ := hX j hjn
      injection ha with ha
      subst ha
      have hadd : (⟨g, off, none⟩ : Addr).add j = ⟨g, off + j, none⟩ := by unfold Addr.add; split <;> simp_all
      rw [hadd, cellF hg, hA, ← hj, bl_at X hjn]
    · intro v' w' h6 h7 _
      rw [Nat.zero_add, List.nil_append] at h6
      exact h v' w' h6 h7
theorem wpList_append_byt {ops : Array Oper} {rest : List Oper} {o : Oper} {a : Act} {w : World} {Q : Exit → Act → World → Prop} (hgd : o.guard = none) (s x : Operand)
    (ho : o.op = .call { callee := .builtin .append, args := #[s, x], argTypes := #[22, 22] })
    (base : Nat) (v : Value) (hs : a.eval s = v) (hown : w.ownsRow base 5 1 v 0 [])
    (ad : Option Addr) (n c : Nat) (X : Nat → Int) (hx : a.eval x = .slice ad n c) (hX : Byt w ad n X) (hnil : ad = none → n = 0 ∧ c = 0)
    (hn : n ≤ 100000000) (hbase : base ≤ w.heap.size)
    (h : ∀ v' w', w'.ownsRow base 5 1 v' n (bl X n) → w.grownBy w' v.ownBlock → wpList Try.prog ops Q rest (a.put o.dst v') w') : wpList Try.prog ops Q (o :: rest) a w :=
  wpList_plain hgd fun _ hK => op_append_byt s x ho base v hs hown ad n c X hx hX hnil hn hbase fun v' w' h1 h2 => hK _ _ (h v' w' h1 h2)
/-- 'append(own, puts...)' -/
theorem op_append_puts {o : Oper} {a : Act} {w : World} {K : Act → World → Prop} {Q : Exit → Act → World → Prop} (s x : Operand)
    (ho : o.op = .call { callee := .builtin .append, args := #[s, x], argTypes := #[46, 46] })
    (base : Nat) (v : Value) (n : Nat) (xs : List Value) (hs : a.eval s = v) (hown : w.ownsRow base 65 4 v n xs)
    (ad : Option Addr) (m cp : Nat) (L : Nat → Array Value) (hL : ∀ i, (L i).size = 4) (hLa : ∀ i, (L i).all (·.oneCell') = true) (hx : a.eval x = .slice ad m cp) (hl : RowsP w ad m L) (hnil : ad = none → m = 0 ∧ cp = 0)
    (hn : n ≤ 10000) (hm : m ≤ 10000) (hbase : base ≤ w.heap.size)
    (h : ∀ v' w', w'.ownsRow base 65 4 v' (n + m) (xs ++ flat L m) → w.grownBy w' v.ownBlock → K (a.put o.dst v') w') : o.wp Try.prog a w K Q := by
  obtain ⟨i, z, h1, h2, h3, h4, h5⟩ := info_rput
  cases ad with
  | none =>
    obtain ⟨rfl, rfl⟩ := hnil rfl
    have hrun := run_append_owned_none (P := Try.prog) (w := w) base _ o.type _ i 4 Try.underlying46 h1 v n xs hown
    unfold Oper.wp execOp
    simp only [ho, resolve, invoke, builtin, Sem.run_bind, Sem.run_pure, Result.andThen_ok, List.map_toArray, List.map_cons, List.map_nil, hs, hx, hrun]
    exact h v w (by simpa [flat] using hown) ⟨rfl, rfl, rfl, Nat.le_refl _, fun _ _ _ => rfl⟩
  | some ad =>
    refine wp_append_own w s x _ ho base _ i z 4 i.bytes Try.underlying46 h1 h2 h3 rfl h5 (by omega) v n xs hs hown ad m cp (flat L m) hx (flatc_len hL m) (rows_at (by omega) hL hl) (flatc_one hLa m) (by unfold maxLen; omega) ?_ hbase ?_
    · have := Nat.mul_le_mul (show n + m ≤ 20000 by omega) h4
      omega
    · intro v' w' h6 h7 _
      exact h v' w' h6 h7
theorem rowsP_one {w : World} {g : Nat} {B : Array Value} {t : TypeId} (hg : w.heap[g]? = some (.cells B t (0, 0))) (hB : B.size = 4) : RowsP w (some ⟨g, 0, none⟩) 1 (fun _ => B) := fun i hi => by
  obtain rfl : i = 0 := by omega
  exact ⟨_, 0, B, _, _, rfl, hg, by omega, by simp [← hB]⟩
theorem rowsP_of {w : World} {t : TypeId} {a : Option Addr} {n : Nat} {L : Nat → Array Value} (h : RowsT w t 4 a n L) : RowsP w a n L := fun i hi => by
  obtain ⟨g, off, A, fr, r⟩ := h i hi
  exact ⟨g, off, A, _, fr, r⟩
/-- all blocks but one are as they were -/
def Kd (g : Nat) (w w' : World) : Prop := ∀ i, i ≠ g → i < w.heap.size → w'.heap[i]? = w.heap[i]?
theorem kd_below {g : Nat} {w w' : World} (h : Below w.heap.size w w') : Kd g w w' := fun i _ hi => h.block i hi
theorem own_weakP {w : World} {b b' n c : Nat} {e : TypeId} {v : Value} {xs : List Value} (h : w.ownsRow b e c v n xs) (hb : b' ≤ b) : w.ownsRow b' e c v n xs := own_weak h hb
/-- the net with one put more, out of a new row -/
theorem rsend_fin {w w9 : World} {g base k n b : Nat} {now f t : Int} {F T At : Nat → Int} {S : Nat → Value} {Ln : Nat → Nat} {X : Nat → Nat → Int} {v v9 s : Value} {Y : Nat → Int}
    (h : RNet w g base k now F T At S Ln X v) (hE : Below w.heap.size w w9) (hs : BytT w9 s n Y) (hn : n ≤ 1048576) (hk : k < 2000) (hb : w.heap.size ≤ b)
    (ho : w9.ownsRow b 65 4 v9 (k + 1) (flat (fun i => p4 (F i) (T i) (S i) (At i)) k ++ (p4 f t s now).toList)) :
    RNet (w9.setCell ⟨g, 0, none⟩ v9) g base (k + 1) now (fun i => if i = k then f else F i) (fun i => if i = k then t else T i) (fun i => if i = k then now else At i) (fun i => if i = k then s else S i) (fun i => if i = k then n else Ln i) (fun i => if i = k then Y else X i) v9 ∧ Below base w (w9.setCell ⟨g, 0, none⟩ v9) ∧ Kd g w (w9.setCell ⟨g, 0, none⟩ v9) ∧ ∀ q, v9.ownBlock = some q → w.heap.size ≤ q := by
  have hg := h.row
  have hgl := (Array.getElem?_eq_some_iff.1 hg).1
  have hbg := h.bg
  have hg9 := Ytfgcjgabknoamaa.kept hE hg
  have hn0 := h.hn
  refine ⟨⟨heap_set (i := 0) hg9, ?_, fun i hi => ?_, fun i => ?_, hbg, fun i hi => ?_, hn0, fun i hi => ?_, by omega⟩, below_set (hE.mono (by omega)) hbg, fun i hi hlt => ?_, fun q e => Nat.le_trans hb (ho.lt q e).1⟩
  · rw [flat_upd]
    refine ownsRow_setCell_other (own_weak ho (by omega)) (fun e => ?_) _
    have h9 : b ≤ g := (ho.lt _ e).1
    omega
  · by_cases e : i = k
    · simp only [e, if_pos rfl]
      exact hs.set hg9 (by decide)
    · rw [if_neg e, if_neg e, if_neg e]
      exact ((h.by_ i (by omega)).kept hE).set hg9 (by decide)
  · by_cases e : i = k
    · rw [if_pos e]; obtain ⟨a, c, h1, _⟩ := hs; exact ⟨_, _, _, h1⟩
    · rw [if_neg e]; exact h.sl i
  · show 0 ≤ (if i = k then now else At i) ∧ (if i = k then now else At i) ≤ now
    by_cases e : i = k
    · rw [if_pos e]; omega
    · rw [if_neg e]; exact h.at_ i (by omega)
  · show (if i = k then n else Ln i) ≤ 1048576
    by_cases e : i = k
    · rw [if_pos e]; omega
    · rw [if_neg e]; exact h.lg i (by omega)
  · rw [heap_setCell_other w9 ⟨g, 0, none⟩ i _ hi]
    exact hE.block i hlt
end Go.Proofs.Ytfgcjgabknoamaa
