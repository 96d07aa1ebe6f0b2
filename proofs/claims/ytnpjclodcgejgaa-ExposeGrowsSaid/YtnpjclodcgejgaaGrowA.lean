/- Appends of stakes and of orders, as the statement on growth makes them. No condition. -/
import Derived.Test.YtnpjclodcgejgaaGrowP
import Derived.Deep.RegionHeld3
namespace Go.Proofs.Ytnpjclodcgejgaa
set_option linter.unusedVariables false
set_option linter.unusedSimpArgs false
open Go.RowKit Go.Deep

theorem own_empty_t (W : World) (e : TypeId) (c : Nat) : (W.alloc (.cells #[] e)).ownsRow W.heap.size e c (.slice (some ⟨W.heap.size, 0, none⟩) 0 0) 0 [] :=
  ⟨by simp, .inr ⟨W.heap.size, 0, #[], rfl, Nat.le_refl _, heap_alloc_new _ _, Nat.le_refl _, by unfold maxLen; omega, by simp, by simp⟩⟩
/-- 'append([]Stake{}, l...)' -/
theorem wpList_append_stks {ops : Array Oper} {rest : List Oper} {o : Oper} {a : Act} {w : World} {Q : Exit → Act → World → Prop} (hgd : o.guard = none) (s x : Operand)
    (ho : o.op = .call { callee := .builtin .append, args := #[s, x], argTypes := #[22, 22] })
    (base : Nat) (v : Value) (hs : a.eval s = v) (hown : w.ownsRow base 33 29 v 0 [])
    (ad : Option Addr) (n c : Nat) (S : Nat → Array Value) (O : Nat → Nat → Array Value) (m : Nat → Nat) (hS : ∀ i, IsStk (S i)) (hx : a.eval x = .slice ad n c) (hl : Stks w ad n S O m) (hnil : ad = none → n = 0 ∧ c = 0)
    (hn : n ≤ 100000) (hbase : base ≤ w.heap.size)
    (h : ∀ v' w', w'.ownsRow base 33 29 v' n (flat S n) → w.grownBy w' v.ownBlock → wpList Try.prog ops Q rest (a.put o.dst v') w') : wpList Try.prog ops Q (o :: rest) a w := by
  obtain ⟨i, z, h1, h2, h3, h4, h5⟩ := info_stk2
  cases ad with
  | none =>
    obtain ⟨rfl, rfl⟩ := hnil rfl
    refine wpList_append_own_none hgd s x _ ho base _ i 29 Try.underlying22 h1 v 0 [] hs hown hx ?_
    exact h v w hown ⟨rfl, rfl, rfl, Nat.le_refl _, fun _ _ _ => rfl⟩
  | some ad =>
    refine wpList_append_own w hgd s x _ ho base _ i z 29 i.bytes Try.underlying22 h1 h2 h3 rfl h5 (by omega) v 0 [] hs hown ad n c (flat S n) hx (flatc_len (fun i => (hS i).size) n) (rows_at (by omega) (fun i => (hS i).size) hl.at_) (flatc_one (fun i => (hS i).all) n) (by unfold maxLen; omega) ?_ hbase ?_
    · have := Nat.mul_le_mul (show 0 + n ≤ 100000 by omega) h4
      omega
    · intro v' w' h6 h7 _
      rw [Nat.zero_add, List.nil_append] at h6
      exact h v' w' h6 h7
/-- the same of orders, as one step of a region that draws its order -/
theorem op_append_ords {o : Oper} {a : Act} {w : World} {K : Act → World → Prop} {Q : Exit → Act → World → Prop} (s x : Operand)
    (ho : o.op = .call { callee := .builtin .append, args := #[s, x], argTypes := #[31, 31] })
    (base : Nat) (v : Value) (hs : a.eval s = v) (hown : w.ownsRow base 41 5 v 0 [])
    (ad : Option Addr) (m c : Nat) (L : Nat → Array Value) (hL : ∀ i, IsOrd (L i)) (hx : a.eval x = .slice ad m c) (hl : Ords w ad m L) (hnil : ad = none → m = 0 ∧ c = 0)
    (hm : m ≤ 100000) (hbase : base ≤ w.heap.size)
    (h : ∀ v' w', w'.ownsRow base 41 5 v' m (flat L m) → w.grownBy w' v.ownBlock → K (a.put o.dst v') w') : o.wp Try.prog a w K Q := by
  obtain ⟨i, z, h1, h2, h3, h4, h5⟩ := info_ord
  cases ad with
  | none =>
    obtain ⟨rfl, rfl⟩ := hnil rfl
    have hrun := run_append_owned_none (P := Try.prog) (w := w) base _ o.type _ i 5 Try.underlying31 h1 v 0 [] hown
    unfold Oper.wp execOp
    simp only [ho, resolve, invoke, builtin, Sem.run_bind, Sem.run_pure, Result.andThen_ok, List.map_toArray, List.map_cons, List.map_nil, hs, hx, hrun]
    exact h v w hown ⟨rfl, rfl, rfl, Nat.le_refl _, fun _ _ _ => rfl⟩
  | some ad =>
    refine wp_append_own w s x _ ho base _ i z 5 i.bytes Try.underlying31 h1 h2 h3 rfl h5 (by omega) v 0 [] hs hown ad m c (flat L m) hx (flatc_len (fun i => (hL i).size) m) (rows_at (by omega) (fun i => (hL i).size) hl) (flatc_one (fun i => (hL i).all) m) (by unfold maxLen; omega) ?_ hbase ?_
    · have := Nat.mul_le_mul (show 0 + m ≤ 100000 by omega) h4
      omega
    · intro v' w' h6 h7 _
      rw [Nat.zero_add, List.nil_append] at h6
      exact h v' w' h6 h7
theorem op_append_ord1 {o : Oper} {a : Act} {w : World} {K : Act → World → Prop} {Q : Exit → Act → World → Prop} (s x : Operand)
    (ho : o.op = .call { callee := .builtin .append, args := #[s, x], argTypes := #[31, 31] })
    (base : Nat) (v : Value) (n : Nat) (xs : List Value) (hs : a.eval s = v) (hown : w.ownsRow base 41 5 v n xs)
    (gs : Nat) (B : Array Value) (hB : IsOrd B) (hx : a.eval x = .slice (some ⟨gs, 0, none⟩) 1 1) (hg : w.heap[gs]? = some (.cells B 41 (0, 0)))
    (hb : n ≤ 100000) (hbase : base ≤ w.heap.size)
    (h : ∀ v' w', w'.ownsRow base 41 5 v' (n + 1) (xs ++ B.toList) → w.grownBy w' v.ownBlock → K (a.put o.dst v') w') : o.wp Try.prog a w K Q := by
  obtain ⟨i, z, h1, h2, h3, h4, h5⟩ := info_ord
  refine wp_append_own w s x _ ho base _ i z 5 i.bytes Try.underlying31 h1 h2 h3 rfl h5 (by omega) v n xs hs hown ⟨gs, 0, none⟩ 1 1 B.toList hx (by simp [hB.size]) (fun j u hj => ?_) (fun u hu => ?_) (by unfold maxLen; omega) ?_ hbase ?_
  · have h2 : (⟨gs, 0, none⟩ : Addr).add j = ⟨gs, j, none⟩ := by unfold Addr.add; split <;> simp_all
    rw [h2, cellF hg]
    simpa using hj
  · have h1 := hB.all
    rw [Array.all_eq_true'] at h1
    exact h1 u (by simpa using hu)
  · have := Nat.mul_le_mul (show n + 1 ≤ 100001 by omega) h4
    omega
  · intro v' w' h6 h7 _
    exact h v' w' h6 h7
theorem flat_set {L : Nat → Array Value} {c : Nat} (hL : ∀ i, (L i).size = c) (u : Value) : ∀ n i j, i < n → j < c → (flat L n).set (i * c + j) u = flat (fun r => if r = i then (L r).setIfInBounds j u else L r) n
  | 0, i, j, hi, _ => by omega
  | n + 1, i, j, hi, hj => by
    have hl := flatc_len hL n
    rw [flat, flat]
    by_cases e : i = n
    · subst e
      rw [List.set_append_right _ _ (by omega), hl, show i * c + j - i * c = j by omega, if_pos rfl, flat_congr (L := fun r => if r = i then (L r).setIfInBounds j u else L r) (L' := L) i (fun r hr => by rw [if_neg (by omega)])]
      simp
    · have h1 := mul_in (n := n) (c := c) (i := i) (j := j) (by omega) hj
      rw [List.set_append_left _ _ (by omega), flat_set hL u n i j (by omega) hj, if_neg (Ne.symm e)]
/-- the first j without orders -/
def bareS (S : Nat → Array Value) (j : Nat) : Nat → Array Value := fun i => if i < j then (S i).setIfInBounds 28 (.slice none 0 0) else S i
theorem bare_size {S : Nat → Array Value} (hS : ∀ i, IsStk (S i)) (j i : Nat) : (bareS S j i).size = 29 := by unfold bareS; split <;> simp [(hS i).size]
theorem bare_next {S : Nat → Array Value} (hS : ∀ i, IsStk (S i)) {n j : Nat} (hj : j < n) : (flat (bareS S j) n).set (j * 29 + 28) (.slice none 0 0) = flat (bareS S (j + 1)) n := by
  rw [flat_set (c := 29) (bare_size hS j) _ n j 28 hj (by omega)]
  refine flat_congr n fun i hi => ?_
  unfold bareS
  by_cases e : i = j
  · subst e; rw [if_pos rfl, if_neg (by omega), if_pos (by omega)]
  · rw [if_neg e]
    by_cases h : i < j
    · rw [if_pos h, if_pos (by omega)]
    · rw [if_neg h, if_neg (by omega)]
theorem bare_start {S : Nat → Array Value} (n : Nat) : flat (bareS S 0) n = flat S n := flat_congr n fun i hi => by unfold bareS; rw [if_neg (by omega)]
theorem bare_end {S : Nat → Array Value} (n : Nat) : flat (bareS S n) n = flat (cp S (fun _ => .slice none 0 0)) n := flat_congr n fun i hi => by unfold bareS cp; rw [if_pos hi]
/-- stakes that have no orders, out of the row -/
theorem stks_bare {w : World} {S : Nat → Array Value} {O : Nat → Nat → Array Value} {a : Option Addr} {n : Nat} (hS : ∀ i, IsStk (S i)) (hr : RowsT w 33 29 a n (cp S (fun _ => .slice none 0 0))) : Stks w a n (cp S (fun _ => .slice none 0 0)) O (fun _ => 0) where
  at_ := fun i hi => by
    obtain ⟨g, off, A, fr, h1, h2, h3⟩ := hr i hi
    exact ⟨g, off, A, _, fr, h1, h2, h3⟩
  or := fun i hi => ⟨none, 0, by unfold cp; rw [Array.getElem?_setIfInBounds_self_of_lt (by rw [(hS i).size]; omega)], fun k hk => by omega, by omega, by omega, fun _ => ⟨rfl, rfl⟩⟩
/-- stakes of which one has another list of orders -/
def wideS (S : Nat → Array Value) (k : Nat) (v : Value) : Nat → Array Value := fun i => if i = k then (S i).setIfInBounds 28 v else S i
theorem stk_wide {S : Nat → Array Value} {k : Nat} {v : Value} (hS : ∀ i, IsStk (S i)) (hv : ∃ a n c, v = .slice a n c) (i : Nat) : IsStk (wideS S k v i) := by
  unfold wideS
  split
  · exact stk_cp (hS i) hv
  · exact hS i
theorem need_wide {S : Nat → Array Value} {k : Nat} {v : Value} {O : Nat → Nat → Array Value} {m : Nat → Nat} (hS : ∀ i, IsStk (S i)) (n : Nat) : nE (wideS S k v) O m n = nE S O m n ∧ nM (wideS S k v) O m n = nM S O m n ∧ nW (wideS S k v) O m n = nW S O m n ∧ nU (wideS S k v) O m n = nU S O m n := by
  have hk : ∀ n, okKs (wideS S k v) O m n = okKs S O m n := fun n => by
    induction n with
    | zero => rfl
    | succ n ih =>
      rw [okKs_s, okKs_s, ih]
      unfold wideS
      split
      · rw [okK_cp (hS n).size]
      · rfl
  have hw : ∀ n, sW (wideS S k v) O m n = sW S O m n := fun n => by
    induction n with
    | zero => rfl
    | succ n ih =>
      rw [sW, sW, ih]
      unfold wideS
      split
      · rw [kw_cp (hS n).size]
      · rfl
  have hu : ∀ n, sU (wideS S k v) n = sU S n := fun n => by
    induction n with
    | zero => rfl
    | succ n ih =>
      rw [sU, sU, ih]
      unfold wideS
      split
      · rw [ku_cp (hS n).size]
      · rfl
  have hl : lg (wideS S k v) = lg S := by
    funext i
    unfold lg wideS
    split
    · rw [extract_set_out (by omega)]
    · rfl
  have he : nE (wideS S k v) O m n = nE S O m n := by unfold nE; rw [hk, hl]
  refine ⟨he, ?_, ?_, ?_⟩
  · unfold nM; rw [he, hl]
  · unfold nW; rw [he, hw]
  · unfold nU; rw [he, hu]
theorem flat_more {O : Nat → Nat → Array Value} {m : Nat → Nat} {k : Nat} {B : Array Value} : flat (Ok1 O m k B k) (m k + 1) = flat (O k) (m k) ++ B.toList := by
  rw [flat, flat_congr (L := Ok1 O m k B k) (L' := O k) (m k) (fun i hi => by unfold Ok1; rw [if_neg (by omega)])]
  unfold Ok1
  simp
theorem ok1_ord {O : Nat → Nat → Array Value} {m : Nat → Nat} {k : Nat} {B : Array Value} (hO : ∀ i j, IsOrd (O i j)) (hB : IsOrd B) (i j : Nat) : IsOrd (Ok1 O m k B i j) := by
  unfold Ok1; split
  · exact hB
  · exact hO i j
theorem mk1_le {m : Nat → Nat} {k i c : Nat} (h : m i ≤ c) : mk1 m k i ≤ c + 1 := by
  unfold mk1
  by_cases e : i = k
  · subst e; rw [if_pos rfl]; omega
  · rw [if_neg e]; omega
/-- the stakes with one order more, out of the copy -/
theorem grow_fin {W w : World} {a : Option Addr} {n : Nat} {S : Nat → Array Value} {O : Nat → Nat → Array Value} {m : Nat → Nat} {k gw c10 b b8 : Nat} {v8 : Value} {B : Array Value} (hS : ∀ i, IsStk (S i)) (hO : ∀ i j, IsOrd (O i j)) (hB : IsOrd B)
    (hA : Stks W a n S O m) (hb : Below W.heap.size W w) (hk : k < n) (hwb : W.heap.size ≤ b) (hw : w.ownsRow b 33 29 (.slice (some ⟨gw, 0, none⟩) n c10) n (flat S n)) (ho : w.ownsRow b8 41 5 v8 (m k + 1) (flat (O k) (m k) ++ B.toList)) :
    (∃ a8 c8, v8 = .slice a8 (m k + 1) c8) ∧ Stks (w.setCell ⟨gw, k * 29 + 28, none⟩ v8) (some ⟨gw, 0, none⟩) n (wideS S k v8) (Ok1 O m k B) (mk1 m k) ∧ Below W.heap.size W (w.setCell ⟨gw, k * 29 + 28, none⟩ v8) := by
  rw [← flat_more] at ho
  have hgw := (hw.lt gw rfl).1
  have ho' := ownsRow_setCell_other ho (a := ⟨gw, k * 29 + 28, none⟩) (fun e => by
    obtain ⟨A1, f1, h1⟩ := own_tag ho _ e
    obtain ⟨A2, f2, h2⟩ := own_tag hw gw rfl
    rw [show w.heap[(⟨gw, k * 29 + 28, none⟩ : Addr).block]? = w.heap[gw]? from rfl, h2] at h1
    injection h1 with h1; injection h1 with _ h1; exact absurd h1 (by decide)) v8
  obtain ⟨a8, c8, rfl, hr8, hn8, hc8, hz8⟩ := own_rows (fun j => (ok1_ord (k := k) (m := m) hO hB k j).size) ho'
  have hst := (hw.stored (k * 29 + 28) (.slice a8 (m k + 1) c8)).1
  rw [flat_set (c := 29) (fun i => (hS i).size) _ n k 28 hk (by omega)] at hst
  have hst2 : (w.setCell ⟨gw, k * 29 + 28, none⟩ (.slice a8 (m k + 1) c8)).ownsRow b 33 29 (.slice (some ⟨gw, 0, none⟩) n c10) n (flat (wideS S k (.slice a8 (m k + 1) c8)) n) := hst
  obtain ⟨a9, c9, he9, hr9, _⟩ := own_rows (fun i => (stk_wide (k := k) (v := .slice a8 (m k + 1) c8) hS ⟨_, _, _, rfl⟩ i).size) hst2
  injection he9 with he9
  subst he9
  have hbs := below_set (i := k * 29 + 28) (v := .slice a8 (m k + 1) c8) hb (show W.heap.size ≤ gw by omega)
  refine ⟨⟨_, _, rfl⟩, ⟨fun i hi => ?_, fun i hi => ?_⟩, hbs⟩
  · obtain ⟨g, off, A, fr, h1, h2, h3⟩ := hr9 i hi
    exact ⟨g, off, A, _, fr, h1, h2, h3⟩
  · by_cases e : i = k
    · subst e
      refine ⟨a8, c8, ?_, fun j hj => ?_, ?_, hc8, ?_⟩
      · unfold wideS mk1
        rw [if_pos rfl, if_pos rfl, Array.getElem?_setIfInBounds_self_of_lt (by rw [(hS i).size]; omega)]
      · unfold mk1 at hj
        rw [if_pos rfl] at hj
        obtain ⟨g, off, A, fr, h4, h5, h6⟩ := hr8 j hj
        exact ⟨g, off, A, _, fr, h4, h5, h6⟩
      · unfold mk1; rw [if_pos rfl]; exact hn8
      · unfold mk1; rw [if_pos rfl]; exact hz8
    · obtain ⟨ad, c, h1, h2, h3⟩ := (hA.kept hbs).or i hi
      have em : mk1 m k i = m i := by unfold mk1; rw [if_neg e]
      have eo : Ok1 O m k B i = O i := funext fun j => by unfold Ok1; rw [if_neg (by omega)]
      have es : wideS S k (.slice a8 (m k + 1) c8) i = S i := by unfold wideS; rw [if_neg e]
      rw [em, eo, es]
      exact ⟨ad, c, h1, h2, h3⟩
end Go.Proofs.Ytnpjclodcgejgaa
