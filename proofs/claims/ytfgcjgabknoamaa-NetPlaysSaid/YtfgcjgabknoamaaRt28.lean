/- The document's net: puts appended. Condition: the net is one. -/
import Derived.Test.YtfgcjgabknoamaaRp28
import Derived.Laws.AppendOwnNone
namespace Go.Proofs.Ytfgcjgabknoamaa
set_option linter.unusedVariables false
set_option linter.unusedSimpArgs false
open Go.RowKit

def RowsP (w : World) (a : Option Addr) (n : Nat) (L : Nat → Array Value) : Prop := ∀ i, i < n → ∃ g off A t fr, a = some (⟨g, off, none⟩ : Addr) ∧ w.heap[g]? = some (.cells A t fr) ∧ off + i * 4 + 4 ≤ A.size ∧ A.extract (off + i * 4) (off + i * 4 + 4) = L i
/-- 'append(own, puts...)' -/
theorem wpList_append_puts {ops : Array Oper} {rest : List Oper} {o : Oper} {a : Act} {w : World} {Q : Exit → Act → World → Prop} (hgd : o.guard = none) (s x : Operand)
    (ho : o.op = .call { callee := .builtin .append, args := #[s, x], argTypes := #[46, 46] })
    (base : Nat) (v : Value) (n : Nat) (xs : List Value) (hs : a.eval s = v) (hown : w.ownsRow base 65 4 v n xs)
    (ad : Option Addr) (m cp : Nat) (L : Nat → Array Value) (hL : ∀ i, (L i).size = 4) (hLa : ∀ i, (L i).all (·.oneCell') = true) (hx : a.eval x = .slice ad m cp) (hl : RowsP w ad m L) (hnil : ad = none → m = 0 ∧ cp = 0)
    (hn : n ≤ 10000) (hm : m ≤ 10000) (hbase : base ≤ w.heap.size)
    (h : ∀ v' w', w'.ownsRow base 65 4 v' (n + m) (xs ++ flat L m) → w.grownBy w' v.ownBlock → wpList Try.prog ops Q rest (a.put o.dst v') w') : wpList Try.prog ops Q (o :: rest) a w := by
  obtain ⟨i, z, h1, h2, h3, h4, h5⟩ := info_rput
  cases ad with
  | none =>
    obtain ⟨rfl, rfl⟩ := hnil rfl
    refine wpList_append_own_none hgd s x _ ho base _ i 4 Try.underlying46 h1 v n xs hs hown hx ?_
    exact h v w (by simpa [flat] using hown) ⟨rfl, rfl, rfl, Nat.le_refl _, fun _ _ _ => rfl⟩
  | some ad =>
    refine wpList_append_own w hgd s x _ ho base _ i z 4 i.bytes Try.underlying46 h1 h2 h3 rfl h5 (by omega) v n xs hs hown ad m cp (flat L m) hx (flatc_len hL m) (rows_at (by omega) hL hl) (flatc_one hLa m) (by unfold maxLen; omega) ?_ hbase ?_
    · have := Nat.mul_le_mul (show n + m ≤ 20000 by omega) h4
      omega
    · intro v' w' h6 h7 _
      exact h v' w' h6 h7
theorem own_empty_p (W : World) (e : TypeId) (c : Nat) : (W.alloc (.cells #[] e)).ownsRow W.heap.size e c (.slice (some ⟨W.heap.size, 0, none⟩) 0 0) 0 [] :=
  ⟨by simp, .inr ⟨W.heap.size, 0, #[], rfl, Nat.le_refl _, heap_alloc_new _ _, Nat.le_refl _, by unfold maxLen; omega, by simp, by simp⟩⟩
theorem flat_addP (A : Nat → Array Value) (n : Nat) : ∀ m, flat A (n + m) = flat A n ++ flat (fun j => A (n + j)) m
  | 0 => by simp [flat]
  | m + 1 => by rw [← Nat.add_assoc, flat, flat_addP A n m, flat, List.append_assoc]
end Go.Proofs.Ytfgcjgabknoamaa
