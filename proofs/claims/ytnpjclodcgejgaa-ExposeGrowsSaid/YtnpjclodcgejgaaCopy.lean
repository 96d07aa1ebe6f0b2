/- Slices of legs that a call makes by append; two legs compared. No condition. -/
import Derived.Test.YtnpjclodcgejgaaOpen
import Derived.Test.YtnpjclodcgejgaaQuiet
import Derived.DeepKeys
import Derived.Laws.StructEq
import Derived.Laws.AppendOwn
import Derived.Laws.AppendOwnNone
namespace Go.Proofs.Ytnpjclodcgejgaa
set_option linter.unusedVariables false
set_option linter.unusedSimpArgs false
open Go.RowKit Go.Deep

/-- the first n legs' cells, one behind the other -/
def flat (L : Nat → Array Value) : Nat → List Value
  | 0 => []
  | n + 1 => flat L n ++ (L n).toList
theorem flat_len {L : Nat → Array Value} (hL : ∀ i, IsLeg (L i)) : ∀ n, (flat L n).length = n * 26
  | 0 => rfl
  | n + 1 => by rw [flat, List.length_append, flat_len hL n, Array.length_toList, (hL n).size]; omega
theorem flat_at {L : Nat → Array Value} (hL : ∀ i, IsLeg (L i)) : ∀ n i j : Nat, i < n → j < 26 → (flat L n)[i * 26 + j]? = (L i)[j]?
  | 0, i, j, hi, _ => by omega
  | n + 1, i, j, hi, hj => by
    have hl := flat_len hL n
    rw [flat]
    by_cases e : i = n
    · subst e
      rw [List.getElem?_append_right (by omega), hl, show i * 26 + j - i * 26 = j by omega, Array.getElem?_toList]
    · rw [List.getElem?_append_left (by omega)]
      exact flat_at hL n i j (by omega) hj
theorem flat_one {L : Nat → Array Value} (hL : ∀ i, IsLeg (L i)) : ∀ n, ∀ v ∈ flat L n, v.oneCell' = true
  | 0, v, h => by simp [flat] at h
  | n + 1, v, h => by
    rw [flat, List.mem_append] at h
    rcases h with h | h
    · exact flat_one hL n v h
    · have h1 := (hL n).all
      rw [Array.all_eq_true'] at h1
      exact h1 v (by simpa using h)
theorem flat_congr {L L' : Nat → Array Value} : ∀ n, (∀ i, i < n → L i = L' i) → flat L n = flat L' n
  | 0, _ => rfl
  | n + 1, h => by rw [flat, flat, flat_congr n (fun i hi => h i (by omega)), h n (by omega)]

theorem legs_at {w : World} {ad : Addr} {n : Nat} {L : Nat → Array Value} (hL : ∀ i, IsLeg (L i)) (h : Legs w (some ad) n L) (j : Nat) (u : Value) (hj : (flat L n)[j]? = some u) : w.cell? (ad.add j) = some u := by
  have hlt : j < n * 26 := by rw [← flat_len hL n]; exact (List.getElem?_eq_some_iff.1 hj).1
  obtain ⟨g, off, A, t, fr, ha, hg, hs, he⟩ := h (j / 26) (by omega)
  injection ha with ha
  subst ha
  have h1 := flat_at hL n (j / 26) (j % 26) (by omega) (by omega)
  rw [show j / 26 * 26 + j % 26 = j by omega, hj] at h1
  have h2 : (⟨g, off, none⟩ : Addr).add j = ⟨g, off + j, none⟩ := by unfold Addr.add; split <;> simp_all
  rw [h2, cellF hg]
  have h3 : A[off + j / 26 * 26 + j % 26]? = (L (j / 26))[j % 26]? := by
    rw [← he, Array.getElem?_extract, if_pos (by omega)]
  rw [show off + j / 26 * 26 + j % 26 = off + j by omega] at h3
  rw [h3, ← h1]
theorem own_legs {w : World} {base n : Nat} {e : TypeId} {v : Value} {L : Nat → Array Value} (hL : ∀ i, IsLeg (L i)) (h : w.ownsRow base e 26 v n (flat L n)) :
    ∃ a cap, v = .slice a n cap ∧ Legs w a n L := by
  obtain ⟨_, ⟨rfl, rfl⟩ | ⟨g, cap, cur, rfl, _, hg, hn, _, hc, ht⟩⟩ := h
  · exact ⟨none, 0, rfl, fun i hi => by omega⟩
  · refine ⟨_, cap, rfl, fun i hi => ⟨g, 0, cur, e, _, rfl, hg, by omega, ?_⟩⟩
    apply Array.ext_getElem?
    intro j
    rw [Array.getElem?_extract]
    by_cases hj : j < 26
    · rw [if_pos (by omega), ← flat_at hL n i j hi hj, ← ht, List.getElem?_take, if_pos (by omega), Array.getElem?_toList]
      simp
    · rw [if_neg (by omega)]
      symm
      rw [Array.getElem?_eq_none_iff, (hL i).size]; omega

theorem info_leg : ∃ i z, Try.prog.info? 30 = some i ∧ i.zero = some z ∧ i.size = 26 ∧ i.bytes = 200 ∧ z.cells.size = 26 := by
  have h : (Try.prog.info? 30).map (fun i => (i.size, i.bytes, i.zero.map (·.cells.size))) = some (26, 200, some 26) := by kernel_rfl
  cases hi : Try.prog.info? 30 with
  | none => simp [hi] at h
  | some i =>
    simp [hi] at h
    obtain ⟨h1, h2, z, h3, h4⟩ := h
    exact ⟨i, z, rfl, h3, h1, h2, h4⟩

theorem at_append (T : TypeId) {P : Program} {ops : Array Oper} {Q : Exit → Act → World → Prop} {rest : List Oper} {a : Act} {w : World} {d : Option Tmp} {x y : Operand} {ty : TypeId} {pos : String} {af : Array Edge} {gd : Option (Nat × Bool)}
    (h : wpList P ops Q (⟨d, .call { callee := .builtin .append, args := #[x, y], argTypes := #[T, T] }, ty, pos, af, gd⟩ :: rest) a w) : wpList P ops Q (⟨d, .call { callee := .builtin .append, args := #[x, y], argTypes := #[T, T] }, ty, pos, af, gd⟩ :: rest) a w := h
/-- 'append(own, legs...)' -/
theorem wpList_append_legs {ops : Array Oper} {rest : List Oper} {o : Oper} {a : Act} {w : World} {Q : Exit → Act → World → Prop} (hgd : o.guard = none) (s x : Operand)
    (ho : o.op = .call { callee := .builtin .append, args := #[s, x], argTypes := #[60, 60] })
    (base : Nat) (v : Value) (n : Nat) (xs : List Value) (hs : a.eval s = v) (hown : w.ownsRow base 30 26 v n xs)
    (ad : Option Addr) (m c : Nat) (L : Nat → Array Value) (hL : ∀ i, IsLeg (L i)) (hx : a.eval x = .slice ad m c) (hl : Legs w ad m L) (hnil : ad = none → m = 0 ∧ c = 0)
    (hbytes : (n + m) * 200 ≤ 140737488355328) (hbase : base ≤ w.heap.size)
    (h : ∀ v' w', w'.ownsRow base 30 26 v' (n + m) (xs ++ flat L m) → w.grownBy w' v.ownBlock → wpList Try.prog ops Q rest (a.put o.dst v') w') : wpList Try.prog ops Q (o :: rest) a w := by
  obtain ⟨i, z, h1, h2, h3, h4, h5⟩ := info_leg
  cases ad with
  | none =>
    obtain ⟨rfl, rfl⟩ := hnil rfl
    refine wpList_append_own_none hgd s x _ ho base _ i 26 Try.underlying60 h1 v n xs hs hown hx ?_
    exact h v w (by simpa [flat] using hown) ⟨rfl, rfl, rfl, Nat.le_refl _, fun _ _ _ => rfl⟩
  | some ad =>
    refine wpList_append_own w hgd s x _ ho base _ i z 26 200 Try.underlying60 h1 h2 h3 h4 h5 (by omega) v n xs hs hown ad m c (flat L m) hx (flat_len hL m) (legs_at hL hl) (flat_one hL m) (by unfold maxLen; omega) hbytes hbase ?_
    exact fun v' w' h6 h7 _ => h v' w' h6 h7

/-! two legs compared -/
theorem mapM_ex {α β : Type} {f : α → Option β} : ∀ l : List α, (∀ x ∈ l, ∃ b, f x = some b) → ∃ bs, l.mapM f = some bs
  | [], _ => ⟨[], rfl⟩
  | x :: l, h => by
    obtain ⟨b, hb⟩ := h x (by simp)
    obtain ⟨bs, hbs⟩ := mapM_ex l (fun y hy => h y (by simp [hy]))
    exact ⟨b :: bs, by rw [List.mapM_cons, hb, hbs]; rfl⟩
theorem kl_int {d o : Nat} {t : TypeId} {k : IntKind} {cs : List Value} (hu : Try.prog.underlying t = some (.int k)) (hc : Try.prog.cellsOf t = 1) (h : IsN cs.toArray k o) :
    ∃ l, Try.prog.keyLits (d + 1) t ((cs.drop o).take (Try.prog.cellsOf t)) = some l := by
  obtain ⟨h1, h2⟩ := h
  have h1' : cs[o]? = some (.int k (N cs.toArray o)) := by simpa using h1
  have hlt : o < cs.length := (List.getElem?_eq_some_iff.1 h1').1
  have e : (cs.drop o).take 1 = [.int k (N cs.toArray o)] := by
    rw [List.drop_eq_getElem_cons hlt, List.take_succ_cons, List.take_zero, (List.getElem?_eq_some_iff.1 h1').2]
  rw [hc, e]
  unfold Program.keyLits
  rw [hu]
  have hw : (Lit.int k (N cs.toArray o)).wf = true := by simpa [Lit.wf] using h2
  simp [hw]
theorem kl_fields {d : Nat} {t : TypeId} {fs : Array Field} {cs : List Value} (ht : Try.prog.underlying t = some (.struct fs)) (hl : cs.length = Try.prog.cellsOf t) (hn : fs.all (·.name != "_") = true)
    (h : ∀ f ∈ fs.toList, ∃ l, Try.prog.keyLits d f.type ((cs.drop f.offset).take (Try.prog.cellsOf f.type)) = some l) : ∃ l, Try.prog.keyLits (d + 1) t cs = some l := by
  obtain ⟨bs, hb⟩ := mapM_ex fs.toList h
  unfold Program.keyLits
  rw [ht]
  simp only [hl, hn, and_self, if_true, hb]
  exact ⟨_, rfl⟩
theorem kl_spec {d : Nat} {cs : List Value} (h : IsSpec cs.toArray) : ∃ l, Try.prog.keyLits (d + 3) 28 cs = some l := by
  have c2 : Try.prog.cellsOf 2 = 1 := by kernel_rfl
  have c22 : Try.prog.cellsOf 25 = 1 := by kernel_rfl
  have c5 : Try.prog.cellsOf 5 = 1 := by kernel_rfl
  have c23 : Try.prog.cellsOf 26 = 16 := by kernel_rfl
  have hc : Try.prog.cellsOf 28 = 25 := by kernel_rfl
  have hlen : cs.length = 25 := by simpa using h.size
  refine kl_fields Try.underlying28 (by rw [hc]; exact hlen) (by kernel_rfl) fun f hf => ?_
  simp only [List.mem_cons, List.not_mem_nil, or_false] at hf
  rcases hf with rfl | rfl | rfl | rfl | rfl | rfl | rfl | rfl | rfl | rfl
  · exact kl_int Try.underlying25 c22 h.c0
  · exact kl_int Try.underlying5 c5 h.c1
  · exact kl_int Try.underlying2 c2 (h.c 2 (by omega) (by omega))
  · exact kl_int Try.underlying2 c2 (h.c 3 (by omega) (by omega))
  · exact kl_int Try.underlying2 c2 (h.c 4 (by omega) (by omega))
  · exact kl_int Try.underlying2 c2 (h.c 5 (by omega) (by omega))
  · have hm : ∀ i ∈ List.range 16, ∃ l, Try.prog.keyLits (d + 1) 2 ((((cs.drop 6).take 16).drop (i * Try.prog.cellsOf 2)).take (Try.prog.cellsOf 2)) = some l := fun i hi => by
      refine kl_int Try.underlying2 c2 ?_
      rw [c2, Nat.mul_one]
      have hi' := List.mem_range.1 hi
      exact (h.c (6 + i) (by omega) (by omega)).moved (drop_at hi').symm
    obtain ⟨bs, hb⟩ := mapM_ex _ hm
    show ∃ l, Try.prog.keyLits (d + 1 + 1) 26 ((cs.drop 6).take (Try.prog.cellsOf 26)) = some l
    rw [c23]
    unfold Program.keyLits
    rw [Try.underlying26]
    simp only [c23, show ((cs.drop 6).take 16).length = 16 by simp; omega, if_true, hb]
    exact ⟨_, rfl⟩
  · exact kl_int Try.underlying2 c2 (h.c 22 (by omega) (by omega))
  · exact kl_int Try.underlying25 c22 h.c23
  · exact kl_int Try.underlying2 c2 h.c24
theorem kl_leg {A : Array Value} (h : IsLeg A) : ∃ l, Try.prog.keyLits 4 30 A.toList = some l := by
  have c2 : Try.prog.cellsOf 2 = 1 := by kernel_rfl
  have c25 : Try.prog.cellsOf 28 = 25 := by kernel_rfl
  have hc : Try.prog.cellsOf 30 = 26 := by kernel_rfl
  refine kl_fields Try.underlying30 (by rw [hc]; simpa using h.size) (by kernel_rfl) fun f hf => ?_
  simp only [List.mem_cons, List.not_mem_nil, or_false] at hf
  rcases hf with rfl | rfl
  · show ∃ l, Try.prog.keyLits (0 + 3) 28 ((A.toList.drop 0).take (Try.prog.cellsOf 28)) = some l
    rw [c25]
    refine kl_spec ?_
    have e : ((A.toList.drop 0).take 25).toArray = A.extract 0 25 := by
      apply Array.ext'
      simp [List.extract]
    rw [e]
    exact h.spec
  · exact kl_int Try.underlying2 c2 (by simpa using h.q)
theorem eq_leg {A : Array Value} (h : IsLeg A) (w : World) : (Op.equalIn 10000 30 (.agg A) (.agg A)).run Try.prog w = .ok true w := by
  obtain ⟨l, hl⟩ := kl_leg h
  have hc : Try.prog.cellsOf 30 = 26 := by kernel_rfl
  have hf : (Value.agg A).formed Try.prog 30 = true := by
    simp [Value.formed, Try.underlying30, hc, h.size]
  obtain ⟨r, h1, h2⟩ := run_equalIn_deep (P := Try.prog) 9996 4 30 (by kernel_rfl) w 4 4 (.agg A) (.agg A) l l hf hf hl hl
  rw [show (9996 + 4 : Nat) = 10000 from rfl] at h1
  rw [h1, h2.2 rfl]

section
variable {P : Program} {ops : Array Oper} {rest : List Oper} {o : Oper} {a : Act} {Q : Act → Prop}
/-- A whole aggregate is loaded, in a region that draws, whatever is frozen. -/
theorem q_load_fr {W : World} (hw : Region.wanted o (yielded ops a.tmps) = true) (ty : TypeId) (x : Operand) (ho : o.op = .load ty x)
    (g off : Nat) (hx : a.eval x = .pointer (some ⟨g, off, none⟩)) (t : TypeId) (cs : Array Value) (fr : Nat × Nat) (d : TypeDesc) (n : Nat) (hg : W.heap[g]? = some (.cells cs t fr))
    (hu : P.underlying ty = some d) (hd : (match d with | .struct _ | .array _ _ => true | _ => false) = true) (hi : (P.info? ty).map (·.size) = some n) (hn : off + n ≤ cs.size)
    (B : Array Value) (hB : cs.extract off (off + n) = B)
    (h : WQ P ops (fun w' => Below W.heap.size W w') Q rest (a.put o.dst (.agg B))) : WQ P ops (fun w' => Below W.heap.size W w') Q (o :: rest) a :=
  q_val (.agg B) hw (fun w hC => by
    unfold execOp
    simp only [ho, hx, Instr.loadAt, Instr.sureAddr, Sem.run_bind, Sem.run_pure, Result.andThen_ok, run_loadVar_part w g off t ty cs fr d n (kept hC hg) hu hd hi hn, hB]) h
end
end Go.Proofs.Ytnpjclodcgejgaa
