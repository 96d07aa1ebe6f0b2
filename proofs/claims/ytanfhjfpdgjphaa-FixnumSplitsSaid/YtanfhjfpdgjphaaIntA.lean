/- Integers appended to a slice of one's own. No condition. -/
import Derived.Test.YtanfhjfpdgjphaaSumI
import Derived.Deep.Slices
import Derived.Laws.AppendOwn
import Derived.Laws.AppendOwnNone
namespace Go.Proofs.Ytanfhjfpdgjphaa
set_option linter.unusedVariables false
set_option linter.unusedSimpArgs false
open Go.RowKit Go.Deep

def zl (Z : Nat → Int) (n : Nat) : List Value := (List.range n).map fun i => .int .i64 (Z i)
theorem zl_len (Z : Nat → Int) (n : Nat) : (zl Z n).length = n := by simp [zl]
theorem zl_at (Z : Nat → Int) {n i : Nat} (h : i < n) : (zl Z n)[i]? = some (.int .i64 (Z i)) := by
  unfold zl; rw [List.getElem?_map, List.getElem?_range h]; rfl
theorem own_ints {w : World} {base n : Nat} {e : TypeId} {v : Value} {Z : Nat → Int} (h : w.ownsRow base e 1 v n (zl Z n)) : ∃ a cap, v = .slice a n cap ∧ Ints w a n Z := by
  obtain ⟨_, ⟨rfl, rfl⟩ | ⟨g, cap, cur, rfl, _, hg, hn, _, hc, ht⟩⟩ := h
  · exact ⟨none, 0, rfl, fun i hi => by omega⟩
  · refine ⟨_, cap, rfl, fun i hi => ⟨g, 0, cur, e, _, rfl, hg, ?_⟩⟩
    rw [Nat.zero_add, ← zl_at Z hi, ← ht, List.getElem?_take, if_pos (by omega), Array.getElem?_toList]
theorem info_i64 : ∃ i z, Try.prog.info? 2 = some i ∧ i.zero = some z ∧ i.size = 1 ∧ i.bytes = 8 ∧ z.cells.size = 1 := by
  have h : (Try.prog.info? 2).map (fun i => (i.size, i.bytes, i.zero.map (·.cells.size))) = some (1, 8, some 1) := by kernel_rfl
  cases hi : Try.prog.info? 2 with
  | none => simp [hi] at h
  | some i =>
    simp [hi] at h
    obtain ⟨h1, h2, z, h3, h4⟩ := h
    exact ⟨i, z, rfl, h3, h1, h2, h4⟩
theorem at_append (T : TypeId) {P : Program} {ops : Array Oper} {Q : Exit → Act → World → Prop} {rest : List Oper} {a : Act} {w : World} {d : Option Tmp} {x y : Operand} {ty : TypeId} {pos : String} {af : Array Edge} {gd : Option (Nat × Bool)}
    (h : wpList P ops Q (⟨d, .call { callee := .builtin .append, args := #[x, y], argTypes := #[T, T] }, ty, pos, af, gd⟩ :: rest) a w) : wpList P ops Q (⟨d, .call { callee := .builtin .append, args := #[x, y], argTypes := #[T, T] }, ty, pos, af, gd⟩ :: rest) a w := h
/-- 'append(own, ints...)' -/
theorem wpList_append_ints {ops : Array Oper} {rest : List Oper} {o : Oper} {a : Act} {w : World} {Q : Exit → Act → World → Prop} (hgd : o.guard = none) (s x : Operand)
    (ho : o.op = .call { callee := .builtin .append, args := #[s, x], argTypes := #[30, 30] })
    (base : Nat) (v : Value) (n : Nat) (xs : List Value) (hs : a.eval s = v) (hown : w.ownsRow base 2 1 v n xs)
    (ad : Option Addr) (m c : Nat) (Z : Nat → Int) (hx : a.eval x = .slice ad m c) (hl : Ints w ad m Z) (hnil : ad = none → m = 0 ∧ c = 0)
    (hbytes : (n + m) * 8 ≤ 140737488355328) (hbase : base ≤ w.heap.size)
    (h : ∀ v' w', w'.ownsRow base 2 1 v' (n + m) (xs ++ zl Z m) → w.grownBy w' v.ownBlock → wpList Try.prog ops Q rest (a.put o.dst v') w') : wpList Try.prog ops Q (o :: rest) a w := by
  obtain ⟨i, z, h1, h2, h3, h4, h5⟩ := info_i64
  cases ad with
  | none =>
    obtain ⟨rfl, rfl⟩ := hnil rfl
    refine wpList_append_own_none hgd s x _ ho base _ i 1 Try.underlying30 h1 v n xs hs hown hx ?_
    exact h v w (by simpa [zl] using hown) ⟨rfl, rfl, rfl, Nat.le_refl _, fun _ _ _ => rfl⟩
  | some ad =>
    refine wpList_append_own w hgd s x _ ho base _ i z 1 8 Try.underlying30 h1 h2 h3 h4 h5 (by omega) v n xs hs hown ad m c (zl Z m) hx (by rw [zl_len]; omega) (fun j u hj => ?_) (fun u hu => ?_) (by unfold maxLen; omega) hbytes hbase ?_
    · have hlt : j < m := by rw [← zl_len Z m]; exact (List.getElem?_eq_some_iff.1 hj).1
      rw [zl_at Z hlt] at hj
      injection hj with hj
      subst hj
      obtain ⟨g, off, A, t, fr, ha, hg, hz⟩ := hl j hlt
      injection ha with ha
      subst ha
      have e : (⟨g, off, none⟩ : Addr).add j = ⟨g, off + j, none⟩ := by unfold Addr.add; split <;> simp_all
      rw [e, cellF hg]
      exact hz
    · unfold zl at hu
      obtain ⟨j, _, rfl⟩ := List.mem_map.1 hu
      rfl
    · exact fun v' w' h6 h7 _ => h v' w' h6 h7
theorem zl_snoc (Z : Nat → Int) (k : Nat) : zl Z k ++ zl (fun _ => Z k) 1 = zl Z (k + 1) := by
  rw [show zl (fun _ => Z k) 1 = [.int .i64 (Z k)] from rfl]
  unfold zl
  rw [List.range_succ, List.map_append]
  rfl
theorem own_empty1 (W : World) (e : TypeId) : (W.alloc (.cells #[] e)).ownsRow W.heap.size e 1 (.slice (some ⟨W.heap.size, 0, none⟩) 0 0) 0 [] :=
  ⟨rfl, .inr ⟨W.heap.size, 0, #[], rfl, Nat.le_refl _, heap_alloc_new _ _, Nat.le_refl _, by unfold maxLen; omega, rfl, rfl⟩⟩

end Go.Proofs.Ytanfhjfpdgjphaa
