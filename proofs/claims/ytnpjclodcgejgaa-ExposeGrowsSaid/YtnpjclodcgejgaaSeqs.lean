/- Slices of structs of any width that a call makes by append: of orders, of stakes; two orders compared. No condition. -/
import Derived.Test.YtnpjclodcgejgaaApart
import Derived.Laws.AppendOwn
import Derived.Laws.AppendOwnNone
namespace Go.Proofs.Ytnpjclodcgejgaa
set_option linter.unusedVariables false
set_option linter.unusedSimpArgs false
open Go.RowKit Go.Deep

theorem mul_in {n c i j : Nat} (hi : i < n) (hj : j < c) : i * c + j < n * c := by
  have h := Nat.mul_le_mul_right c (show i + 1 ≤ n by omega)
  rw [Nat.add_mul] at h
  omega
theorem flatc_len {L : Nat → Array Value} {c : Nat} (hL : ∀ i, (L i).size = c) : ∀ n, (flat L n).length = n * c
  | 0 => by simp [flat]
  | n + 1 => by rw [flat, List.length_append, flatc_len hL n, Array.length_toList, hL n, Nat.add_mul]; omega
theorem flatc_at {L : Nat → Array Value} {c : Nat} (hL : ∀ i, (L i).size = c) : ∀ n i j : Nat, i < n → j < c → (flat L n)[i * c + j]? = (L i)[j]?
  | 0, i, j, hi, _ => by omega
  | n + 1, i, j, hi, hj => by
    have hl := flatc_len hL n
    rw [flat]
    by_cases e : i = n
    · subst e
      rw [List.getElem?_append_right (by omega), hl, show i * c + j - i * c = j by omega, Array.getElem?_toList]
    · rw [List.getElem?_append_left (by rw [hl]; exact mul_in (by omega) hj)]
      exact flatc_at hL n i j (by omega) hj
theorem flatc_one {L : Nat → Array Value} (hL : ∀ i, (L i).all (·.oneCell') = true) : ∀ n, ∀ v ∈ flat L n, v.oneCell' = true
  | 0, v, h => by simp [flat] at h
  | n + 1, v, h => by
    rw [flat, List.mem_append] at h
    rcases h with h | h
    · exact flatc_one hL n v h
    · have h1 := hL n
      rw [Array.all_eq_true'] at h1
      exact h1 v (by simpa using h)
/-- rows of c cells that lie one behind the other in a block of that type -/
def RowsT (w : World) (t : TypeId) (c : Nat) (a : Option Addr) (n : Nat) (L : Nat → Array Value) : Prop :=
  ∀ i, i < n → ∃ g off A fr, a = some ⟨g, off, none⟩ ∧ w.heap[g]? = some (.cells A t fr) ∧ off + i * c + c ≤ A.size ∧ A.extract (off + i * c) (off + i * c + c) = L i
theorem own_rows {w : World} {base n c : Nat} {e : TypeId} {v : Value} {L : Nat → Array Value} (hL : ∀ i, (L i).size = c) (h : w.ownsRow base e c v n (flat L n)) :
    ∃ a cap, v = .slice a n cap ∧ RowsT w e c a n L ∧ n ≤ cap ∧ cap ≤ 9223372036854775807 ∧ (a = none → n = 0 ∧ cap = 0) := by
  obtain ⟨_, ⟨rfl, rfl⟩ | ⟨g, cap, cur, rfl, _, hg, hn, hm, hc, ht⟩⟩ := h
  · exact ⟨none, 0, rfl, fun i hi => by omega, by omega, by omega, fun _ => ⟨rfl, rfl⟩⟩
  · refine ⟨_, cap, rfl, fun i hi => ⟨g, 0, cur, _, rfl, hg, ?_, ?_⟩, hn, by unfold maxLen at hm; omega, fun h => by cases h⟩
    · have h1 := Nat.mul_le_mul_right c (show i + 1 ≤ cap by omega)
      rw [Nat.add_mul] at h1
      omega
    · apply Array.ext_getElem?
      intro j
      rw [Array.getElem?_extract]
      by_cases hj : j < c
      · have h1 := Nat.mul_le_mul_right c (show i + 1 ≤ cap by omega)
        rw [Nat.add_mul] at h1
        rw [if_pos (by omega), ← flatc_at hL n i j hi hj, ← ht, List.getElem?_take, if_pos (mul_in hi hj), Array.getElem?_toList]
        simp
      · rw [if_neg (by omega)]
        symm
        rw [Array.getElem?_eq_none_iff, hL i]; omega
theorem rowsT_grown {w w' : World} {t t2 : TypeId} {c n : Nat} {a : Option Addr} {L : Nat → Array Value} {row : Option Nat} (h : RowsT w t c a n L) (hg : w.grownBy w' row) (hr : ∀ g, row = some g → ∃ A fr, w.heap[g]? = some (.cells A t2 fr)) (hne : t ≠ t2) : RowsT w' t c a n L := fun i hi => by
  obtain ⟨g, off, A, fr, h1, h2, h3⟩ := h i hi
  refine ⟨g, off, A, fr, h1, ?_, h3⟩
  rw [hg.block g (Array.getElem?_eq_some_iff.1 h2).1 (fun e => ?_)]
  · exact h2
  · obtain ⟨A2, fr2, h4⟩ := hr g e.symm
    rw [h4] at h2
    injection h2 with h2
    injection h2 with _ h5
    exact hne h5.symm
theorem rowsT_kept {w w' : World} {t : TypeId} {c n : Nat} {a : Option Addr} {L : Nat → Array Value} (h : RowsT w t c a n L) (hb : Below w.heap.size w w') : RowsT w' t c a n L := fun i hi => by
  obtain ⟨g, off, A, fr, h1, h2, h3⟩ := h i hi
  exact ⟨g, off, A, fr, h1, kept hb h2, h3⟩
theorem own_tag {w : World} {base n c : Nat} {e : TypeId} {v : Value} {xs : List Value} (h : w.ownsRow base e c v n xs) : ∀ g, v.ownBlock = some g → ∃ A fr, w.heap[g]? = some (.cells A e fr) := by
  obtain ⟨_, ⟨rfl, rfl⟩ | ⟨g, cap, cur, rfl, _, hg, _⟩⟩ := h
  · intro g h; cases h
  · intro g' h
    injection h with h
    subst h
    exact ⟨cur, _, hg⟩
theorem rows_at {w : World} {ad : Addr} {n c : Nat} {L : Nat → Array Value} (hc : 0 < c) (hL : ∀ i, (L i).size = c)
    (h : ∀ i, i < n → ∃ g off A t fr, some ad = some (⟨g, off, none⟩ : Addr) ∧ w.heap[g]? = some (.cells A t fr) ∧ off + i * c + c ≤ A.size ∧ A.extract (off + i * c) (off + i * c + c) = L i) (j : Nat) (u : Value) (hj : (flat L n)[j]? = some u) : w.cell? (ad.add j) = some u := by
  have hlt : j < n * c := by rw [← flatc_len hL n]; exact (List.getElem?_eq_some_iff.1 hj).1
  have hq : j / c < n := (Nat.div_lt_iff_lt_mul hc).2 hlt
  have hr : j % c < c := Nat.mod_lt _ hc
  have hjj : j / c * c + j % c = j := by rw [Nat.mul_comm]; exact Nat.div_add_mod j c
  obtain ⟨g, off, A, t, fr, ha, hg, hs, he⟩ := h (j / c) hq
  injection ha with ha
  subst ha
  have h1 := flatc_at hL n (j / c) (j % c) hq hr
  rw [hjj, hj] at h1
  have h2 : (⟨g, off, none⟩ : Addr).add j = ⟨g, off + j, none⟩ := by unfold Addr.add; split <;> simp_all
  rw [h2, cellF hg]
  have h3 : A[off + j / c * c + j % c]? = (L (j / c))[j % c]? := by
    rw [← he, Array.getElem?_extract, if_pos (by omega)]
  rw [show off + j / c * c + j % c = off + j by omega] at h3
  rw [h3, ← h1]

theorem info_ord : ∃ i z, Try.prog.info? 41 = some i ∧ i.zero = some z ∧ i.size = 5 ∧ i.bytes ≤ 64 ∧ z.cells.size = 5 := by
  have h : (Try.prog.info? 41).map (fun i => (i.size, decide (i.bytes ≤ 64), i.zero.map (·.cells.size))) = some (5, true, some 5) := by kernel_rfl
  cases hi : Try.prog.info? 41 with
  | none => simp [hi] at h
  | some i =>
    simp [hi] at h
    obtain ⟨h1, h2, z, h3, h4⟩ := h
    exact ⟨i, z, rfl, h3, h1, h2, h4⟩
theorem info_stk2 : ∃ i z, Try.prog.info? 33 = some i ∧ i.zero = some z ∧ i.size = 29 ∧ i.bytes ≤ 512 ∧ z.cells.size = 29 := by
  have h : (Try.prog.info? 33).map (fun i => (i.size, decide (i.bytes ≤ 512), i.zero.map (·.cells.size))) = some (29, true, some 29) := by kernel_rfl
  cases hi : Try.prog.info? 33 with
  | none => simp [hi] at h
  | some i =>
    simp [hi] at h
    obtain ⟨h1, h2, z, h3, h4⟩ := h
    exact ⟨i, z, rfl, h3, h1, h2, h4⟩
/-- 'append(own, orders...)' -/
theorem wpList_append_ords {ops : Array Oper} {rest : List Oper} {o : Oper} {a : Act} {w : World} {Q : Exit → Act → World → Prop} (hgd : o.guard = none) (s x : Operand)
    (ho : o.op = .call { callee := .builtin .append, args := #[s, x], argTypes := #[31, 31] })
    (base : Nat) (v : Value) (hs : a.eval s = v) (hown : w.ownsRow base 41 5 v 0 [])
    (ad : Option Addr) (m c : Nat) (L : Nat → Array Value) (hL : ∀ i, IsOrd (L i)) (hx : a.eval x = .slice ad m c) (hl : Ords w ad m L) (hnil : ad = none → m = 0 ∧ c = 0)
    (hm : m ≤ 100000) (hbase : base ≤ w.heap.size)
    (h : ∀ v' w', w'.ownsRow base 41 5 v' m (flat L m) → w.grownBy w' v.ownBlock → wpList Try.prog ops Q rest (a.put o.dst v') w') : wpList Try.prog ops Q (o :: rest) a w := by
  obtain ⟨i, z, h1, h2, h3, h4, h5⟩ := info_ord
  cases ad with
  | none =>
    obtain ⟨rfl, rfl⟩ := hnil rfl
    refine wpList_append_own_none hgd s x _ ho base _ i 5 Try.underlying31 h1 v 0 [] hs hown hx ?_
    exact h v w hown ⟨rfl, rfl, rfl, Nat.le_refl _, fun _ _ _ => rfl⟩
  | some ad =>
    refine wpList_append_own w hgd s x _ ho base _ i z 5 i.bytes Try.underlying31 h1 h2 h3 rfl h5 (by omega) v 0 [] hs hown ad m c (flat L m) hx (flatc_len (fun i => (hL i).size) m) (rows_at (by omega) (fun i => (hL i).size) hl) (flatc_one (fun i => (hL i).all) m) (by unfold maxLen; omega) ?_ hbase ?_
    · have := Nat.mul_le_mul (show 0 + m ≤ 100000 by omega) h4
      omega
    · intro v' w' h6 h7 _
      rw [Nat.zero_add, List.nil_append] at h6
      exact h v' w' h6 h7
/-- 'append(own, x)', a stake -/
theorem wpList_append_stk {ops : Array Oper} {rest : List Oper} {o : Oper} {a : Act} {w : World} {Q : Exit → Act → World → Prop} (hgd : o.guard = none) (s x : Operand)
    (ho : o.op = .call { callee := .builtin .append, args := #[s, x], argTypes := #[22, 22] })
    (base : Nat) (v : Value) (n : Nat) (xs : List Value) (hs : a.eval s = v) (hown : w.ownsRow base 33 29 v n xs)
    (gs : Nat) (B : Array Value) (hB : IsStk B) (hx : a.eval x = .slice (some ⟨gs, 0, none⟩) 1 1) (hg : w.heap[gs]? = some (.cells B 33 (0, 0)))
    (hb : n ≤ 100000) (hbase : base ≤ w.heap.size)
    (h : ∀ v' w', w'.ownsRow base 33 29 v' (n + 1) (xs ++ B.toList) → w.grownBy w' v.ownBlock → wpList Try.prog ops Q rest (a.put o.dst v') w') : wpList Try.prog ops Q (o :: rest) a w := by
  obtain ⟨i, z, h1, h2, h3, h4, h5⟩ := info_stk2
  refine wpList_append_own w hgd s x _ ho base _ i z 29 i.bytes Try.underlying22 h1 h2 h3 rfl h5 (by omega) v n xs hs hown ⟨gs, 0, none⟩ 1 1 B.toList hx (by simp [hB.size]) (fun j u hj => ?_) (fun u hu => ?_) (by unfold maxLen; omega) ?_ hbase ?_
  · have h2 : (⟨gs, 0, none⟩ : Addr).add j = ⟨gs, j, none⟩ := by unfold Addr.add; split <;> simp_all
    rw [h2, cellF hg]
    simpa using hj
  · have h1 := hB.all
    rw [Array.all_eq_true'] at h1
    exact h1 u (by simpa using hu)
  · have := Nat.mul_le_mul (show n + 1 ≤ 100001 by omega) h4
    omega
  · intro v' w' h6 h7 _
    exact h v' w' h6 h7

theorem eq_ord {A : Array Value} (h : IsOrd A) (w : World) : (Op.equalIn 10000 41 (.agg A) (.agg A)).run Try.prog w = .ok true w := by
  have c2 : Try.prog.cellsOf 2 = 1 := by kernel_rfl
  have c3 : Try.prog.cellsOf 39 = 1 := by kernel_rfl
  have c4 : Try.prog.cellsOf 25 = 1 := by kernel_rfl
  have c5 : Try.prog.cellsOf 4 = 1 := by kernel_rfl
  have hc : Try.prog.cellsOf 41 = 5 := by kernel_rfl
  obtain ⟨l, hl⟩ : ∃ l, Try.prog.keyLits (1 + 1) 41 A.toList = some l := by
    refine kl_fields Try.underlying41 (by rw [hc]; simpa using h.size) (by kernel_rfl) fun f hf => ?_
    simp only [List.mem_cons, List.not_mem_nil, or_false] at hf
    rcases hf with rfl | rfl | rfl | rfl | rfl
    · exact kl_int Try.underlying39 c3 (by simpa using h.n)
    · exact kl_int Try.underlying25 c4 (by simpa using h.a)
    · have hb : A[2]? = some (.bool (Bo A 2)) := h.b
      have h1' : A.toList[2]? = some (.bool (Bo A 2)) := by simpa using hb
      have hlt : 2 < A.toList.length := (List.getElem?_eq_some_iff.1 h1').1
      have e : (A.toList.drop 2).take 1 = [.bool (Bo A 2)] := by
        rw [List.drop_eq_getElem_cons hlt, List.take_succ_cons, List.take_zero, (List.getElem?_eq_some_iff.1 h1').2]
      show ∃ l, Try.prog.keyLits 1 4 ((A.toList.drop 2).take (Try.prog.cellsOf 4)) = some l
      rw [c5, e]
      unfold Program.keyLits
      rw [Try.underlying4]
      exact ⟨_, rfl⟩
    · exact kl_int Try.underlying2 c2 (by simpa using h.p)
    · exact kl_int Try.underlying2 c2 (by simpa using h.l)
  have hf : (Value.agg A).formed Try.prog 41 = true := by
    simp [Value.formed, Try.underlying41, hc, h.size]
  obtain ⟨r, h1, h2⟩ := run_equalIn_deep (P := Try.prog) 9998 2 41 (by kernel_rfl) w 2 2 (.agg A) (.agg A) l l hf hf hl hl
  rw [show (9998 + 2 : Nat) = 10000 from rfl] at h1
  rw [h1, h2.2 rfl]
theorem neq_ord {A : Array Value} (h : IsOrd A) (w : World) : (binOp .neq 41 (.agg A) (.agg A)).run Try.prog w = .ok (.bool false) w := by
  rw [run_neq_struct, eq_ord h]
  rfl
theorem neq_leg {A : Array Value} (h : IsLeg A) (w : World) : (binOp .neq 30 (.agg A) (.agg A)).run Try.prog w = .ok (.bool false) w := by
  rw [run_neq_struct, eq_leg h]
  rfl
end Go.Proofs.Ytnpjclodcgejgaa
