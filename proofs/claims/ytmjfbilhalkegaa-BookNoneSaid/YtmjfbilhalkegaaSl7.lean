/- A slice built of one struct; one row more behind the own ones. No condition. -/
import Derived.Test.YtmjfbilhalkegaaHeldG
namespace Go.Proofs.Ytmjfbilhalkegaa
set_option linter.unusedVariables false
set_option linter.unusedSimpArgs false
open Go.RowKit

theorem at_slice1 (T : TypeId) {P : Program} {ops : Array Oper} {Q : Exit → Act → World → Prop} {rest : List Oper} {a : Act} {w : World} {d : Option Tmp} {n : Nat} {ps : Array (Nat × Operand)} {ty : TypeId} {pos : String} {af : Array Edge} {gd : Option (Nat × Bool)}
    (h : wpList P ops Q (⟨d, .buildSlice T n ps, ty, pos, af, gd⟩ :: rest) a w) : wpList P ops Q (⟨d, .buildSlice T n ps, ty, pos, af, gd⟩ :: rest) a w := h
theorem wpList_slice1c {P : Program} {ops : Array Oper} {rest : List Oper} {o : Oper} {a : Act} {w : World} {Q : Exit → Act → World → Prop} (hgd : Region.wanted o (yielded ops a.tmps) = true) (t e : TypeId) (x : Operand) (ho : o.op = .buildSlice t 1 #[(0, x)])
    (B : Array Value) (c : Nat) (hx : a.eval x = .agg B) (hB : B.size = c) (ie : TypeInfo) (z : Value) (hu : P.underlying t = some (.slice e)) (hie : P.info? e = some ie) (hz : ie.zero = some z) (h4 : ie.size = c) (hz4 : z.cells.size = c) (hc : 0 < c) (hc2 : c ≤ 1000)
    (h : wpList P ops Q rest (a.put o.dst (.slice (some ⟨w.heap.size, 0, none⟩) 1 1)) (w.alloc (.cells B e))) : wpList P ops Q (o :: rest) a w :=
  wpList_step fun K hK => by
    rw [if_pos hgd]
    exact op_slice1 t e x ho B c hx hB ie z hu hie hz h4 hz4 hc hc2 (hK _ _ h)
/-- one row more behind the own ones -/
theorem wpList_append_row1 {ops : Array Oper} {rest : List Oper} {o : Oper} {a : Act} {w : World} {Q : Exit → Act → World → Prop} {E S : TypeId} {c : Nat} {X : Array Value} (hgd : o.guard = none) (s x : Operand)
    (ho : o.op = .call { callee := .builtin .append, args := #[s, x], argTypes := #[S, S] }) (hS : Try.prog.underlying S = some (.slice E))
    (hi : ∃ i z, Try.prog.info? E = some i ∧ i.zero = some z ∧ i.size = c ∧ i.bytes ≤ 1000 ∧ z.cells.size = c) (hc : 0 < c) (hX : X.size = c) (hXa : X.all (·.oneCell') = true)
    (base : Nat) (v : Value) (n : Nat) (xs : List Value) (hs : a.eval s = v) (hown : w.ownsRow base E c v n xs) (hx : a.eval x = .slice (some ⟨w.heap.size, 0, none⟩) 1 1) (hn : n ≤ 100000000) (hbase : base ≤ w.heap.size)
    (h : ∀ v' w', w'.ownsRow base E c v' (n + 1) (xs ++ X.toList) → (w.alloc (.cells X E)).grownBy w' v.ownBlock → (∀ q, v.ownBlock = some q → base ≤ q) → wpList Try.prog ops Q rest (a.put o.dst v') w') : wpList Try.prog ops Q (o :: rest) a (w.alloc (.cells X E)) := by
  obtain ⟨i, z, h1, h2, h3, h4, h5⟩ := hi
  have hb := Nat.mul_le_mul (show n + 1 ≤ 100000001 by omega) h4
  refine wpList_append_own (w.alloc (.cells X E)) hgd s x _ ho base _ i z c i.bytes hS h1 h2 h3 rfl h5 hc v n xs hs (hown.alloc _) ⟨w.heap.size, 0, none⟩ 1 1 X.toList hx (by simp [hX]) (fun j u hj => ?_) (fun u hu => ?_) (by unfold maxLen; omega) (by omega) (by simp; omega) ?_
  · have e : (⟨w.heap.size, 0, none⟩ : Addr).add j = ⟨w.heap.size, j, none⟩ := by unfold Addr.add; split <;> simp_all
    rw [e, cellF (heap_alloc_new w (.cells X E))]
    simpa using hj
  · rw [Array.all_eq_true'] at hXa
    exact hXa u (by simpa using hu)
  · exact fun v' w' h6 h7 _ => h v' w' h6 h7 (fun q hq => (hown.lt q hq).1)
end Go.Proofs.Ytmjfbilhalkegaa
