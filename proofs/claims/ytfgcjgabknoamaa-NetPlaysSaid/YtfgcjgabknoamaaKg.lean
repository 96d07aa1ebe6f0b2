/- Frames of the net's calls: only the net's own two blocks are written. No condition. -/
import Derived.Test.YtfgcjgabknoamaaTake
import Derived.Test.YtfgcjgabknoamaaCloneF
import Derived.Maps.AppendAt
namespace Go.Proofs.Ytfgcjgabknoamaa
set_option linter.unusedVariables false
set_option linter.unusedSimpArgs false
open Go.RowKit

/-- of what lay there only the net and its row are written; its row is the same block, or a new one -/
def Kg (g : Nat) (w w' : World) : Prop := ∀ v, w.heap[g]? = some (.cells #[v] 56 (0, 0)) → (∀ i, i ≠ g → some i ≠ v.ownBlock → i < w.heap.size → w'.heap[i]? = w.heap[i]?) ∧ ∃ v', w'.heap[g]? = some (.cells #[v'] 56 (0, 0)) ∧ (v'.ownBlock = v.ownBlock ∨ ∃ b, v'.ownBlock = some b ∧ w.heap.size ≤ b)
theorem kg_below {g : Nat} {w w' : World} (h : Below w.heap.size w w') : Kg g w w' := fun v hv => ⟨fun i _ _ hi => h.block i hi, v, Ytfgcjgabknoamaa.kept h hv, .inl rfl⟩
theorem kg_kp {w w' : World} {g base k : Nat} {F T Ag : Nat → Int} {S : Nat → Value} {Ln : Nat → Nat} {X : Nat → Nat → Int} (hN : NetIs w g base k F T Ag S Ln X) (h : Kg g w w') : Kp w w' := by
  obtain ⟨v, hg, hrow⟩ := hN.row
  obtain ⟨q, _⟩ := h v hg
  intro b A t fr hb h1 h2
  refine (q b (fun e => ?_) (fun e => ?_) (Array.getElem?_eq_some_iff.1 hb).1).trans hb
  · subst e; rw [hg] at hb; injection hb with hb; injection hb with _ hb; exact h1 hb.symm
  · obtain ⟨A9, f9, h9⟩ := own_tag hrow b e.symm
    rw [h9] at hb; injection hb with hb; injection hb with _ hb; exact h2 hb.symm
theorem cells1_inj {a b : Value} {t : TypeId} {w : World} {g : Nat} (h : w.heap[g]? = some (.cells #[a] t (0, 0))) (h2 : w.heap[g]? = some (.cells #[b] t (0, 0))) : b = a := by
  rw [h] at h2
  injection h2 with h2
  injection h2 with h2
  simpa using h2.symm
theorem kg_send {g : Nat} {w w1 w5 : World} {v v5 : Value} {o : Obj} (hg : w.heap[g]? = some (.cells #[v] 56 (0, 0))) (hB : Below w.heap.size w w1) (hgr : (w1.alloc o).grownBy w5 v.ownBlock) (hg5 : w5.heap[g]? = some (.cells #[v] 56 (0, 0))) (hat : v5.ownBlock = v.ownBlock ∨ v5.ownBlock = some (w1.alloc o).heap.size) : Kg g w (w5.setCell ⟨g, 0, none⟩ v5) := fun u hu => by
  obtain rfl := cells1_inj hg hu
  have hs := hB.size
  refine ⟨fun i h1 h2 h3 => ?_, v5, heap_set (i := 0) (v := v5) hg5, ?_⟩
  · rw [heap_setCell_other w5 ⟨g, 0, none⟩ i _ h1, hgr.block i (by simp; omega) h2, (below_new w1 o).block i (by omega)]
    exact hB.block i h3
  · rcases hat with e | e
    · exact .inl e
    · exact .inr ⟨_, e, by simp; omega⟩
theorem wp_append_own_at {P : Program} {w : World} {o : Oper} {a : Act} {K : Act → World → Prop} {Q : Exit → Act → World → Prop} (s x : Operand) (t : TypeId)
    (ho : o.op = .call { callee := .builtin .append, args := #[s, x], argTypes := #[t, t] })
    (base : Nat) (e : TypeId) (i : TypeInfo) (z : Value) (size bytes : Nat) (ht : P.underlying t = some (.slice e)) (hi : P.info? e = some i) (hz : i.zero = some z)
    (hsize : i.size = size) (hby : i.bytes = bytes) (hzs : z.cells.size = size) (hsz : 0 < size)
    (v : Value) (n : Nat) (xs : List Value) (hs : a.eval s = v) (hown : w.ownsRow base e size v n xs)
    (ad : Addr) (m c : Nat) (news : List Value) (hx : a.eval x = .slice (some ad) m c) (hl : news.length = m * size) (hnews : ∀ j u, news[j]? = some u → w.cell? (ad.add j) = some u) (h1 : ∀ u ∈ news, u.oneCell' = true)
    (h63 : n + m ≤ maxLen) (hbytes : (n + m) * bytes ≤ 140737488355328) (hbase : base ≤ w.heap.size)
    (h : ∀ v' w', w'.ownsRow base e size v' (n + m) (xs ++ news) → w.grownBy w' v.ownBlock → (v'.ownBlock = v.ownBlock ∨ v'.ownBlock = some w.heap.size) → K (a.put o.dst v') w') : o.wp P a w K Q := by
  obtain ⟨v', w', hr, h2, h3, h4, h5⟩ := run_append_own_at (P := P) w base t o.type e i z size bytes ht hi hz hsize hby hzs hsz v n xs hown ad m c news hl hnews h1 h63 hbytes hbase
  unfold Oper.wp execOp
  simp only [ho, resolve, invoke, builtin, Sem.run_bind, Sem.run_pure, Result.andThen_ok, List.map_toArray, List.map_cons, List.map_nil, hs, hx, hr]
  exact h v' w' h2 h3 h5
end Go.Proofs.Ytfgcjgabknoamaa
