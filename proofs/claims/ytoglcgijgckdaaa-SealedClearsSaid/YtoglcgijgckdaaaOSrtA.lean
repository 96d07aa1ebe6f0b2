/- slices' swapRangeCmpFunc and rotateCmpFunc at orders: what they make of a row in a block of its own. Condition: the places lie within the row. -/
import Derived.Test.YtoglcgijgckdaaaSrt
import Derived.Test.YtoglcgijgckdaaaQuiet
import Derived.Test.YtoglcgijgckdaaaOrd8
import Derived.Deep.LoopGhost
namespace Go.Proofs.Ytoglcgijgckdaaa
set_option linter.unusedVariables false
set_option linter.unusedSimpArgs false
open Go.RowKit

/-- in w0's block blk stand, in place of the row, the orders L (d 0) .. L (d (n-1)); all else of w0 is as it was -/
structure RowJ (L : Nat → Array Value) (w0 w : World) (blk n : Nat) (d : Nat → Nat) : Prop where
  fr : w0.grownBy w (some blk)
  row : ∃ A, w.heap[blk]? = some (.cells A 31 (0, 0)) ∧ ∀ k, k < n → k * 5 + 5 ≤ A.size ∧ A.extract (k * 5) (k * 5 + 5) = L (d k)
  lt : ∀ k, k < n → d k < n
  sz : n < 1000000000000
  ord : ∀ i, IsOrd (L i)
theorem RowJ.drew {L : Nat → Array Value} {w0 w : World} {blk n : Nat} {d : Nat → Nat} (h : RowJ L w0 w blk n d) : RowJ L w0 w.drew blk n d := ⟨⟨h.fr.os, h.fr.tape, h.fr.output, h.fr.size, h.fr.block⟩, h.row, h.lt, h.sz, h.ord⟩
theorem RowJ.below {L : Nat → Array Value} {w0 w w' : World} {blk n : Nat} {d : Nat → Nat} (h : RowJ L w0 w blk n d) (hb : Below w.heap.size w w') : RowJ L w0 w' blk n d := by
  obtain ⟨A, h1, h2⟩ := h.row
  exact ⟨h.fr.trans ⟨hb.os, hb.tape, hb.output, hb.size, fun k hk _ => hb.block k hk⟩, ⟨A, Ytoglcgijgckdaaa.kept hb h1, h2⟩, h.lt, h.sz, h.ord⟩
theorem RowJ.congr {L : Nat → Array Value} {w0 w : World} {blk n : Nat} {d d' : Nat → Nat} (h : RowJ L w0 w blk n d) (e : d = d') : RowJ L w0 w blk n d' := e ▸ h
theorem row_apart {p k : Nat} (h : k ≠ p) : k * 5 + 5 ≤ p * 5 ∨ p * 5 + 5 ≤ k * 5 := by omega
/-- one row of the block written over -/
theorem splice_rows {A S : Array Value} {n p : Nat} {X : Nat → Array Value} (hS : S.size = 5) (hp : p < n) (h : ∀ k, k < n → k * 5 + 5 ≤ A.size ∧ A.extract (k * 5) (k * 5 + 5) = X k) :
    ∀ k, k < n → k * 5 + 5 ≤ (splice A (p * 5) S).size ∧ (splice A (p * 5) S).extract (k * 5) (k * 5 + 5) = if k = p then S else X k := fun k hk => by
  have hz : p * 5 + S.size ≤ A.size := by rw [hS]; exact (h p hp).1
  refine ⟨by rw [splice_size hz]; exact (h k hk).1, ?_⟩
  apply Array.ext_getElem?
  intro j
  rw [Array.getElem?_extract]
  have hks := (h k hk).1
  by_cases hj : j < 5
  · rw [if_pos (by rw [splice_size hz]; omega), splice_get hz, hS]
    by_cases e : k = p
    · subst e; rw [if_pos ⟨by omega, by omega⟩, if_pos rfl, show k * 5 + j - k * 5 = j by omega]
    · have := row_apart e
      rw [if_neg (by omega), if_neg e, ← (h k hk).2, Array.getElem?_extract, if_pos (by omega)]
  · rw [if_neg (by rw [splice_size hz]; omega)]
    symm
    rw [Array.getElem?_eq_none_iff]
    split
    · omega
    · rw [← (h k hk).2]; simp; omega
/-- two rows change places -/
theorem RowJ.swap {L : Nat → Array Value} {w0 w w1 w2 : World} {blk n p q : Nat} {d : Nat → Nat} {A : Array Value} (h : RowJ L w0 w blk n d) (hp : p < n) (hq : q < n) (hA : ∀ k, k < n → k * 5 + 5 ≤ A.size ∧ A.extract (k * 5) (k * 5 + 5) = L (d k))
    (hb1 : Below blk w w1) (ho1 : ∀ k, k ≠ blk → w1.heap[k]? = w.heap[k]?) (hb2 : Below blk w1 w2) (ho2 : ∀ k, k ≠ blk → w2.heap[k]? = w1.heap[k]?)
    (h2 : w2.heap[blk]? = some (.cells (splice (splice A (p * 5) (L (d q))) (q * 5) (L (d p))) 31 (0, 0))) : RowJ L w0 w2 blk n (swp d p q) := by
  have r1 := splice_rows (h.ord (d q)).size hp hA
  have r2 := splice_rows (h.ord (d p)).size hq r1
  refine ⟨h.fr.trans ⟨hb2.os.trans hb1.os, hb2.tape.trans hb1.tape, hb2.output.trans hb1.output, Nat.le_trans hb1.size hb2.size, fun k _ hne => ?_⟩, ⟨_, h2, fun k hk => ?_⟩, fun k hk => ?_, h.sz, h.ord⟩
  · have : k ≠ blk := fun e => hne (by rw [e])
    exact (ho2 k this).trans (ho1 k this)
  · refine ⟨(r2 k hk).1, (r2 k hk).2.trans ?_⟩
    unfold swp
    by_cases e : k = q
    · subst e
      by_cases e2 : k = p
      · subst e2; simp
      · simp [e2]
    · rw [if_neg e]
      by_cases e2 : k = p
      · rw [if_pos e2, if_pos e2]
      · rw [if_neg e2, if_neg e2, if_neg e]
  · unfold swp
    split
    · exact h.lt q hq
    · split
      · exact h.lt p hp
      · exact h.lt k hk
theorem wrapN {n : Nat} {z : Int} (hz : z = (n : Int)) (h : n < 2000000000000) : IntKind.i64.wrap z = (n : Int) := by rw [IntKind.wrap_i64]; omega
theorem op_load_part' {P : Program} {o : Oper} {a : Act} {w : World} {K : Act → World → Prop} {Q : Exit → Act → World → Prop} (ty : TypeId) (x : Operand) (ho : o.op = .load ty x)
    (g off : Nat) (hx : a.eval x = .pointer (some ⟨g, off, none⟩)) (t : TypeId) (cs : Array Value) (fr : Nat × Nat) (d : TypeDesc) (n : Nat) (hg : w.heap[g]? = some (.cells cs t fr))
    (hu : P.underlying ty = some d) (hd : (match d with | .struct _ | .array _ _ => true | _ => false) = true) (hi : (P.info? ty).map (·.size) = some n) (hn : off + n ≤ cs.size) (B : Array Value) (hB : cs.extract off (off + n) = B)
    (h : K (a.put o.dst (.agg B)) w) : o.wp P a w K Q := wp_load_part ty x ho g off hx t cs fr d n hg hu hd hi hn (by rw [hB]; exact h)
theorem op_store_part' {P : Program} {o : Oper} {a : Act} {w : World} {K : Act → World → Prop} {Q : Exit → Act → World → Prop} (ty : TypeId) (x y : Operand) (ho : o.op = .store ty x y)
    (g off : Nat) (S : Array Value) (hx : a.eval x = .pointer (some ⟨g, off, none⟩)) (hy : a.eval y = .agg S)
    (t : TypeId) (cs : Array Value) (hg : w.heap[g]? = some (.cells cs t (0, 0))) (hi : (P.info? ty).map (·.size) = some S.size)
    (hn : off + S.size ≤ cs.size) (h1 : S.all (·.oneCell') = true)
    (h : ∀ w1 : World, w1.heap[g]? = some (.cells (splice cs off S) t (0, 0)) → (∀ k, k ≠ g → w1.heap[k]? = w.heap[k]?) → (∀ B, B ≤ g → Below B w w1) → K (a.put o.dst undef) w1) : o.wp P a w K Q := by
  unfold Oper.wp execOp
  simp only [ho, hx, hy, Instr.storeAt, Instr.sureAddr, Sem.run_bind, Sem.run_pure, Result.andThen_ok, run_storeVar_part w g off t ty cs S hg hi hn h1]
  exact h _ (setRow_heap w g cs _ t _ hg) (fun k hk => setRow_other w g k _ hk)
      (fun B hB => ⟨rfl, rfl, rfl, Nat.le_of_eq (setRow_size _ _ _).symm, fun k hk => setRow_other w g k _ (by omega)⟩)

set_option maxRecDepth 100000 in
set_option maxHeartbeats 2000000 in
/-- two stretches of k orders, from a on and from b on, change places -/
theorem swapr_any (L : Nat → Array Value) (blk n cap a b k : Nat) (d : Nat → Nat) (fv : Value) (w0 w : World) (hR : RowJ L w0 w blk n d) (hab : a + k ≤ b) (hb : b + k ≤ n) :
    Calls Try.prog 23 #[.slice (some ⟨blk, 0, none⟩) n cap, .int .i64 a, .int .i64 b, .int .i64 k, fv] w fun e w' => e = .returned (.tuple #[]) ∧ RowJ L w0 w' blk n (swr d a b k) := by
  have hsz := hR.sz
  have H0 := Lib.hid hR
  clear hR
  go_enter Try.func23, Try.ntmps23
  go_wp2
  go_loopg [10] k (fun gh vi wr => ∃ i : Nat, i ≤ k ∧ gh = k - i ∧ vi = .int .i64 i ∧ RowJ L w0 wr blk n (swr d a b i))
  case atStart => exact ⟨0, by omega, by omega, rfl, by rw [swr_zero]; exact H0.out⟩
  case round =>
    obtain ⟨i, hi, rfl, rfl, hRi⟩ := hrel
    by_cases hlt : i < k
    · obtain ⟨p, hp⟩ : ∃ p, p = a + i := ⟨_, rfl⟩
      obtain ⟨q, hq⟩ : ∃ q, q = b + i := ⟨_, rfl⟩
      have wp1 := wrapN (z := (a : Int) + (i : Int)) (n := p) (by omega) (by omega)
      have wq1 := wrapN (z := (b : Int) + (i : Int)) (n := q) (by omega) (by omega)
      have wi1 := wrapN (z := (i : Int) + 1) (n := i + 1) (by omega) (by omega)
      have hpn : (p : Int) < (n : Int) := by omega
      have hqn : (q : Int) < (n : Int) := by omega
      have hik : (i : Int) < (k : Int) := by omega
      have HS := Lib.hid (show swp (swr d a b i) p q = swr d a b (i + 1) by rw [hp, hq]; exact swr_next (by omega))
      have HPQ := Lib.hid (show p < n ∧ q < n by omega)
      clear hp hq
      generalize hd' : swr d a b i = dj at *
      clear hd'
      have HRD := Lib.hid hRi
      clear hRi H0
      go_wp2
      obtain ⟨wy, hwy⟩ : ∃ wy, wy = wr := ⟨_, rfl⟩
      rw [← hwy] at HRD ⊢
      clear hwy
      refine wp_region_any (by kernel_rfl) ?_
      change wpAny _ _ _ _ _ _ _ (World.drew _)
      obtain ⟨wq, hwq⟩ : ∃ wq, wq = World.drew wy := ⟨_, rfl⟩
      have HRW := Lib.hid (show RowJ L w0 wq blk n dj from by rw [hwq]; exact HRD.out.drew)
      rw [← hwq]
      clear hwq
      obtain ⟨A, hgA, hXA⟩ := HRW.out.row
      have HP5 := Lib.hid (hXA p HPQ.out.1)
      have HQ5 := Lib.hid (hXA q HPQ.out.2)
      have HXA := Lib.hid hXA
      clear hXA
      (refine wpAny_take (i := 0) (v := ?_) rfl (by kernel_rfl) (by kernel_rfl) (by kernel_rfl) (fun _ _ _ h => h) (Or.inl ⟨by rfl, ?wt_0⟩) ?_); (case wt_0 => (intro wt; go_simp; try with_reducible rfl)); (try simp only [Act.put, List.getElem_toArray, List.getElem_cons_zero, List.getElem_cons_succ, List.setIfInBounds_toArray, List.set_cons_zero, List.set_cons_succ]); (refine wpAny_take (i := 1) (v := ?_) rfl (by kernel_rfl) (by kernel_rfl) (by kernel_rfl) (fun _ _ _ h => h) (Or.inl ⟨by rfl, ?wt_1⟩) ?_); (case wt_1 => (intro wt; go_simp; try with_reducible rfl)); (try simp only [Act.put, List.getElem_toArray, List.getElem_cons_zero, List.getElem_cons_succ, List.setIfInBounds_toArray, List.set_cons_zero, List.set_cons_succ]); (refine wpAny_take (i := 2) (v := ?_) rfl (by kernel_rfl) (by kernel_rfl) (by kernel_rfl) (fun _ _ _ h => h) (Or.inl ⟨by rfl, ?wt_2⟩) ?_); (case wt_2 => (intro wt; go_simp; try with_reducible rfl)); (try simp only [Act.put, List.getElem_toArray, List.getElem_cons_zero, List.getElem_cons_succ, List.setIfInBounds_toArray, List.set_cons_zero, List.set_cons_succ]); (refine wpAny_take (i := 3) (v := ?_) rfl (by kernel_rfl) (by kernel_rfl) (by kernel_rfl) (fun _ _ _ h => h) (Or.inl ⟨by rfl, ?wt_3⟩) ?_); (case wt_3 => (intro wt; go_simp; try with_reducible rfl)); (try simp only [Act.put, List.getElem_toArray, List.getElem_cons_zero, List.getElem_cons_succ, List.setIfInBounds_toArray, List.set_cons_zero, List.set_cons_succ]); (refine wpAny_take (i := 4) (v := ?_) rfl (by kernel_rfl) (by kernel_rfl) (by kernel_rfl) (fun _ _ _ h => h) (Or.inl ⟨by rfl, ?wt_4⟩) ?_); (case wt_4 => (intro wt; go_simp; try with_reducible rfl)); (try simp only [Act.put, List.getElem_toArray, List.getElem_cons_zero, List.getElem_cons_succ, List.setIfInBounds_toArray, List.set_cons_zero, List.set_cons_succ]); (refine wpAny_take (i := 5) (v := ?_) rfl (by kernel_rfl) (by kernel_rfl) (by kernel_rfl) (fun _ _ _ h => h) (Or.inl ⟨by rfl, ?wt_5⟩) ?_); (case wt_5 => (intro wt; go_simp; try with_reducible rfl)); (try simp only [Act.put, List.getElem_toArray, List.getElem_cons_zero, List.getElem_cons_succ, List.setIfInBounds_toArray, List.set_cons_zero, List.set_cons_succ]); (refine wpAny_take (i := 6) (v := ?_) rfl (by kernel_rfl) (by kernel_rfl) (by kernel_rfl) (fun _ _ _ h => h) (Or.inl ⟨by rfl, ?wt_6⟩) ?_); (case wt_6 => (intro wt; go_simp; try with_reducible rfl)); (try simp only [Act.put, List.getElem_toArray, List.getElem_cons_zero, List.getElem_cons_succ, List.setIfInBounds_toArray, List.set_cons_zero, List.set_cons_succ]); (refine wpAny_take (i := 7) (v := ?_) rfl (by kernel_rfl) (by kernel_rfl) (by kernel_rfl) (fun _ _ _ h => h) (Or.inl ⟨by rfl, ?wt_7⟩) ?_); (case wt_7 => (intro wt; go_simp; try with_reducible rfl)); (try simp only [Act.put, List.getElem_toArray, List.getElem_cons_zero, List.getElem_cons_succ, List.setIfInBounds_toArray, List.set_cons_zero, List.set_cons_succ]); (refine wpAny_take (i := 8) (v := ?_) rfl (by kernel_rfl) (by kernel_rfl) (by kernel_rfl) (fun _ _ _ h => h) (Or.inl ⟨by rfl, ?wt_8⟩) ?_); (case wt_8 => (intro wt; go_simp; try with_reducible rfl)); (try simp only [Act.put, List.getElem_toArray, List.getElem_cons_zero, List.getElem_cons_succ, List.setIfInBounds_toArray, List.set_cons_zero, List.set_cons_succ]); (refine wpAny_take (i := 9) (v := ?_) rfl (by kernel_rfl) (by kernel_rfl) (by kernel_rfl) (fun _ _ _ h => h) (Or.inl ⟨by rfl, ?wt_9⟩) ?_); (case wt_9 => (intro wt; go_simp; try with_reducible rfl)); (try simp only [Act.put, List.getElem_toArray, List.getElem_cons_zero, List.getElem_cons_succ, List.setIfInBounds_toArray, List.set_cons_zero, List.set_cons_succ]); (refine wpAny_take (i := 10) (v := ?_) rfl (by kernel_rfl) (by kernel_rfl) (by kernel_rfl) (fun _ _ _ h => h) (Or.inl ⟨by rfl, ?wt_10⟩) ?_); (case wt_10 => (intro wt; go_simp; try with_reducible rfl)); (try simp only [Act.put, List.getElem_toArray, List.getElem_cons_zero, List.getElem_cons_succ, List.setIfInBounds_toArray, List.set_cons_zero, List.set_cons_succ]); (refine wpAny_take (i := 11) (v := ?_) rfl (by kernel_rfl) (by kernel_rfl) (by kernel_rfl) (fun _ _ _ h => h) (Or.inl ⟨by rfl, ?wt_11⟩) ?_); (case wt_11 => (intro wt; go_simp; try with_reducible rfl)); (try simp only [Act.put, List.getElem_toArray, List.getElem_cons_zero, List.getElem_cons_succ, List.setIfInBounds_toArray, List.set_cons_zero, List.set_cons_succ]); (refine wpAny_take (i := 12) (v := ?_) rfl (by kernel_rfl) (by kernel_rfl) (by kernel_rfl) (fun _ _ _ h => h) (Or.inl ⟨by rfl, ?wt_12⟩) ?_); (case wt_12 => (intro wt; go_simp; try with_reducible rfl)); (try simp only [Act.put, List.getElem_toArray, List.getElem_cons_zero, List.getElem_cons_succ, List.setIfInBounds_toArray, List.set_cons_zero, List.set_cons_succ]); (refine wpAny_take (i := 14) (v := ?_) rfl (by kernel_rfl) (by kernel_rfl) (by kernel_rfl) (fun _ _ _ h => h) (Or.inl ⟨by rfl, ?wt_14⟩) ?_); (case wt_14 => (intro wt; go_simp; try with_reducible rfl)); (try simp only [Act.put, List.getElem_toArray, List.getElem_cons_zero, List.getElem_cons_succ, List.setIfInBounds_toArray, List.set_cons_zero, List.set_cons_succ]); (refine wpAny_take (i := 15) (v := ?_) rfl (by kernel_rfl) (by kernel_rfl) (by kernel_rfl) (fun _ _ _ h => h) (Or.inl ⟨by rfl, ?wt_15⟩) ?_); (case wt_15 => (intro wt; go_simp; try with_reducible rfl)); (try simp only [Act.put, List.getElem_toArray, List.getElem_cons_zero, List.getElem_cons_succ, List.setIfInBounds_toArray, List.set_cons_zero, List.set_cons_succ]); (refine wpAny_take (i := 16) (v := ?_) rfl (by kernel_rfl) (by kernel_rfl) (by kernel_rfl) (fun _ _ _ h => h) (Or.inl ⟨by rfl, ?wt_16⟩) ?_); (case wt_16 => (intro wt; go_simp; try with_reducible rfl)); (try simp only [Act.put, List.getElem_toArray, List.getElem_cons_zero, List.getElem_cons_succ, List.setIfInBounds_toArray, List.set_cons_zero, List.set_cons_succ]); (refine wpAny_take (i := 17) (v := ?_) rfl (by kernel_rfl) (by kernel_rfl) (by kernel_rfl) (fun _ _ _ h => h) (Or.inl ⟨by rfl, ?wt_17⟩) ?_); (case wt_17 => (intro wt; go_simp; try with_reducible rfl)); (try simp only [Act.put, List.getElem_toArray, List.getElem_cons_zero, List.getElem_cons_succ, List.setIfInBounds_toArray, List.set_cons_zero, List.set_cons_succ]); (refine wpAny_take (i := 18) (v := ?_) rfl (by kernel_rfl) (by kernel_rfl) (by kernel_rfl) (fun _ _ _ h => h) (Or.inl ⟨by rfl, ?wt_18⟩) ?_); (case wt_18 => (intro wt; go_simp; try with_reducible rfl)); (try simp only [Act.put, List.getElem_toArray, List.getElem_cons_zero, List.getElem_cons_succ, List.setIfInBounds_toArray, List.set_cons_zero, List.set_cons_succ])
      refine wpAny_ready (rs := [13, 19]) (by kernel_rfl) (by decide) ?_
      refine AllReady.cons rfl (fun K' hK => ?_) (AllReady.cons rfl (fun K' hK => ?_) AllReady.nil)
      · rw [if_pos (by rfl)]
        refine op_load_part' 31 _ rfl blk (q * 5) (by rfl) _ A _ _ 5 hgA Try.underlying31 rfl (by kernel_rfl) HQ5.out.1 (L (dj q)) HQ5.out.2 (hK _ _ ?_)
        clear hK K'
        (try simp only [Act.put, List.getElem_toArray, List.getElem_cons_zero, List.getElem_cons_succ, List.setIfInBounds_toArray, List.set_cons_zero, List.set_cons_succ])
        refine wpAny_ready (rs := [19]) (by kernel_rfl) (by decide) ?_
        refine AllReady.cons rfl (fun K' hK => ?_) AllReady.nil
        rw [if_pos (by rfl)]
        refine op_load_part' 31 _ rfl blk (p * 5) (by rfl) _ A _ _ 5 hgA Try.underlying31 rfl (by kernel_rfl) HP5.out.1 (L (dj p)) HP5.out.2 (hK _ _ ?_)
        clear hK K'
        (try simp only [Act.put, List.getElem_toArray, List.getElem_cons_zero, List.getElem_cons_succ, List.setIfInBounds_toArray, List.set_cons_zero, List.set_cons_succ])
        (refine wpAny_take (i := 20) (v := ?_) rfl (by kernel_rfl) (by kernel_rfl) (by kernel_rfl) (fun _ _ _ h => h) (Or.inl ⟨by rfl, ?wt_20⟩) ?_); (case wt_20 => (intro wt; go_simp; try with_reducible rfl)); (try simp only [Act.put, List.getElem_toArray, List.getElem_cons_zero, List.getElem_cons_succ, List.setIfInBounds_toArray, List.set_cons_zero, List.set_cons_succ])
        refine wpAny_ready (rs := [21]) (by kernel_rfl) (by decide) ?_
        refine AllReady.cons rfl (fun K' hK => ?_) AllReady.nil
        rw [if_pos (by rfl)]
        refine op_store_part' 31 _ _ rfl blk (p * 5) (L (dj q)) (by rfl) (by rfl) _ A hgA (by rw [(HRW.out.ord _).size]; kernel_rfl) (by rw [(HRW.out.ord _).size]; exact HP5.out.1) (HRW.out.ord _).all ?_
        intro ws1 hs1 hos1 hbs1
        refine hK _ _ ?_
        clear hK K'
        (try simp only [Act.put, List.getElem_toArray, List.getElem_cons_zero, List.getElem_cons_succ, List.setIfInBounds_toArray, List.set_cons_zero, List.set_cons_succ])
        (refine wpAny_take (i := 22) (v := ?_) rfl (by kernel_rfl) (by kernel_rfl) (by kernel_rfl) (fun _ _ _ h => h) (Or.inl ⟨by rfl, ?wt_22⟩) ?_); (case wt_22 => (intro wt; go_simp; try with_reducible rfl)); (try simp only [Act.put, List.getElem_toArray, List.getElem_cons_zero, List.getElem_cons_succ, List.setIfInBounds_toArray, List.set_cons_zero, List.set_cons_succ])
        refine wpAny_ready (rs := [23]) (by kernel_rfl) (by decide) ?_
        refine AllReady.cons rfl (fun K' hK => ?_) AllReady.nil
        rw [if_pos (by rfl)]
        refine op_store_part' 31 _ _ rfl blk (q * 5) (L (dj p)) (by rfl) (by rfl) _ _ hs1 (by rw [(HRW.out.ord _).size]; kernel_rfl) (by rw [(HRW.out.ord _).size]; exact (splice_rows (HRW.out.ord (dj q)).size HPQ.out.1 HXA.out q HPQ.out.2).1) (HRW.out.ord _).all ?_
        intro ws2 hs2 hos2 hbs2
        have HSW := Lib.hid (HRW.out.swap HPQ.out.1 HPQ.out.2 HXA.out (hbs1 _ (Nat.le_refl _)) hos1 (hbs2 _ (Nat.le_refl _)) hos2 hs2)
        refine hK _ _ ?_
        clear hK K' hs1 hos1 hbs1 hs2 hos2 hbs2 hgA
        refine wpAny_done (by kernel_rfl) ?_ _
        (try simp only [Act.put, List.getElem_toArray, List.getElem_cons_zero, List.getElem_cons_succ, List.setIfInBounds_toArray, List.set_cons_zero, List.set_cons_succ])
        go_wp2
        go_roundg (k - (i + 1))
        case measure => omega
        case rel => exact ⟨i + 1, by omega, rfl, by go_num, HSW.out.congr HS.out⟩
      · rw [if_pos (by rfl)]
        refine op_load_part' 31 _ rfl blk (p * 5) (by rfl) _ A _ _ 5 hgA Try.underlying31 rfl (by kernel_rfl) HP5.out.1 (L (dj p)) HP5.out.2 (hK _ _ ?_)
        clear hK K'
        (try simp only [Act.put, List.getElem_toArray, List.getElem_cons_zero, List.getElem_cons_succ, List.setIfInBounds_toArray, List.set_cons_zero, List.set_cons_succ])
        refine wpAny_ready (rs := [13]) (by kernel_rfl) (by decide) ?_
        refine AllReady.cons rfl (fun K' hK => ?_) AllReady.nil
        rw [if_pos (by rfl)]
        refine op_load_part' 31 _ rfl blk (q * 5) (by rfl) _ A _ _ 5 hgA Try.underlying31 rfl (by kernel_rfl) HQ5.out.1 (L (dj q)) HQ5.out.2 (hK _ _ ?_)
        clear hK K'
        (try simp only [Act.put, List.getElem_toArray, List.getElem_cons_zero, List.getElem_cons_succ, List.setIfInBounds_toArray, List.set_cons_zero, List.set_cons_succ])
        (refine wpAny_take (i := 20) (v := ?_) rfl (by kernel_rfl) (by kernel_rfl) (by kernel_rfl) (fun _ _ _ h => h) (Or.inl ⟨by rfl, ?wt_20⟩) ?_); (case wt_20 => (intro wt; go_simp; try with_reducible rfl)); (try simp only [Act.put, List.getElem_toArray, List.getElem_cons_zero, List.getElem_cons_succ, List.setIfInBounds_toArray, List.set_cons_zero, List.set_cons_succ])
        refine wpAny_ready (rs := [21]) (by kernel_rfl) (by decide) ?_
        refine AllReady.cons rfl (fun K' hK => ?_) AllReady.nil
        rw [if_pos (by rfl)]
        refine op_store_part' 31 _ _ rfl blk (p * 5) (L (dj q)) (by rfl) (by rfl) _ A hgA (by rw [(HRW.out.ord _).size]; kernel_rfl) (by rw [(HRW.out.ord _).size]; exact HP5.out.1) (HRW.out.ord _).all ?_
        intro ws1 hs1 hos1 hbs1
        refine hK _ _ ?_
        clear hK K'
        (try simp only [Act.put, List.getElem_toArray, List.getElem_cons_zero, List.getElem_cons_succ, List.setIfInBounds_toArray, List.set_cons_zero, List.set_cons_succ])
        (refine wpAny_take (i := 22) (v := ?_) rfl (by kernel_rfl) (by kernel_rfl) (by kernel_rfl) (fun _ _ _ h => h) (Or.inl ⟨by rfl, ?wt_22⟩) ?_); (case wt_22 => (intro wt; go_simp; try with_reducible rfl)); (try simp only [Act.put, List.getElem_toArray, List.getElem_cons_zero, List.getElem_cons_succ, List.setIfInBounds_toArray, List.set_cons_zero, List.set_cons_succ])
        refine wpAny_ready (rs := [23]) (by kernel_rfl) (by decide) ?_
        refine AllReady.cons rfl (fun K' hK => ?_) AllReady.nil
        rw [if_pos (by rfl)]
        refine op_store_part' 31 _ _ rfl blk (q * 5) (L (dj p)) (by rfl) (by rfl) _ _ hs1 (by rw [(HRW.out.ord _).size]; kernel_rfl) (by rw [(HRW.out.ord _).size]; exact (splice_rows (HRW.out.ord (dj q)).size HPQ.out.1 HXA.out q HPQ.out.2).1) (HRW.out.ord _).all ?_
        intro ws2 hs2 hos2 hbs2
        have HSW := Lib.hid (HRW.out.swap HPQ.out.1 HPQ.out.2 HXA.out (hbs1 _ (Nat.le_refl _)) hos1 (hbs2 _ (Nat.le_refl _)) hos2 hs2)
        refine hK _ _ ?_
        clear hK K' hs1 hos1 hbs1 hs2 hos2 hbs2 hgA
        refine wpAny_done (by kernel_rfl) ?_ _
        (try simp only [Act.put, List.getElem_toArray, List.getElem_cons_zero, List.getElem_cons_succ, List.setIfInBounds_toArray, List.set_cons_zero, List.set_cons_succ])
        go_wp2
        go_roundg (k - (i + 1))
        case measure => omega
        case rel => exact ⟨i + 1, by omega, rfl, by go_num, HSW.out.congr HS.out⟩
    · obtain rfl : i = k := by omega
      have HR := Lib.hid hRi
      clear hRi
      go_wp2
      (try simp only [Exit.inBlock, Exit.then]); first | go_end0 | refine bodyPost_ret (results_none rfl _ _ _) rfl ?_
      exact ⟨rfl, HR.out⟩

theorem swapr_at (L : Nat → Array Value) (blk n cap a b k : Nat) (za zb zk : Int) (d : Nat → Nat) (fv : Value) (w0 w : World) (ea : za = a) (eb : zb = b) (ek : zk = k) (hR : RowJ L w0 w blk n d) (hab : a + k ≤ b) (hb : b + k ≤ n) :
    Calls Try.prog 23 #[.slice (some ⟨blk, 0, none⟩) n cap, .int .i64 za, .int .i64 zb, .int .i64 zk, fv] w fun e w' => e = .returned (.tuple #[]) ∧ RowJ L w0 w' blk n (swr d a b k) := by
  subst ea; subst eb; subst ek; exact swapr_any L blk n cap a b k d fv w0 w hR hab hb
set_option maxRecDepth 100000 in
set_option maxHeartbeats 2000000 in
/-- what stands from m on comes ahead of what stands from a on -/
theorem rotate_any (L : Nat → Array Value) (blk n cap a m b : Nat) (d : Nat → Nat) (fv : Value) (w0 w : World) (hR : RowJ L w0 w blk n d) (h1 : a < m) (h2 : m < b) (hb : b ≤ n) :
    Calls Try.prog 22 #[.slice (some ⟨blk, 0, none⟩) n cap, .int .i64 a, .int .i64 m, .int .i64 b, fv] w fun e w' => e = .returned (.tuple #[]) ∧ RowJ L w0 w' blk n (rot a m b d) := by
  have hsz := hR.sz
  have C := Lib.hid (fun (x y k : Nat) (dk : Nat → Nat) (wr : World) (zx zy zk : Int) => swapr_at L blk n cap x y k zx zy zk dk fv w0 wr)
  have H0 := Lib.hid hR
  clear hR
  have hw0 := wrapN (z := (m : Int) - (a : Int)) (n := m - a) (by omega) (by omega)
  have hw1 := wrapN (z := (b : Int) - (m : Int)) (n := b - m) (by omega) (by omega)
  have HI := Lib.hid (show 0 < m - a ∧ m - a ≤ m ∧ 0 < b - m ∧ m + (b - m) ≤ n ∧ rot (m - (m - a)) m (m + (b - m)) d = rot a m b d from by
    refine ⟨by omega, by omega, by omega, by omega, ?_⟩
    rw [show m - (m - a) = a by omega, show m + (b - m) = b by omega])
  obtain ⟨i0, hi0⟩ : ∃ i0, i0 = m - a := ⟨_, rfl⟩
  obtain ⟨j0, hj0⟩ : ∃ j0, j0 = b - m := ⟨_, rfl⟩
  rw [← hi0] at hw0
  rw [← hj0] at hw1
  rw [← hi0, ← hj0] at HI
  have hmn : m ≤ n := by omega
  clear hi0 hj0 h1 h2 hb
  go_enter Try.func22, Try.ntmps22
  go_wp2
  go_loopg [10, 11] (i0 + j0) (fun gh vi vj wr => ∃ (i j : Nat) (dk : Nat → Nat), gh = i + j ∧ vi = .int .i64 i ∧ vj = .int .i64 j ∧ 0 < i ∧ i ≤ m ∧ 0 < j ∧ m + j ≤ n ∧ rot (m - i) m (m + j) dk = rot a m b d ∧ RowJ L w0 wr blk n dk)
  case atStart => obtain ⟨q1, q2, q3, q4, q5⟩ := HI.out; exact ⟨i0, j0, d, rfl, rfl, rfl, q1, q2, q3, q4, q5, H0.out⟩
  case round =>
    obtain ⟨i, j, dk, rfl, rfl, rfl, q1, q2, q3, q4, q5, hRk⟩ := hrel
    have HE := Lib.hid q5
    have HR := Lib.hid hRk
    clear q5 hRk HI H0
    rcases Nat.lt_trichotomy i j with h | rfl | h
    · have d1 : decide ((i : Int) = (j : Int)) = false := by rw [decide_eq_false_iff_not]; omega
      have d2 : decide ((j : Int) < (i : Int)) = false := by rw [decide_eq_false_iff_not]; omega
      have w1 := wrapN (z := (m : Int) - (i : Int)) (n := m - i) (by omega) (by omega)
      have w2 := wrapN (z := (m : Int) + (j : Int)) (n := m + j) (by omega) (by omega)
      have w3 := wrapN (z := ((m + j : Nat) : Int) - (i : Int)) (n := m + j - i) (by omega) (by omega)
      have w4 := wrapN (z := (j : Int) - (i : Int)) (n := j - i) (by omega) (by omega)
      have c := C.out (m - i) (m + j - i) i dk
      go_wp2_with (first | (go_at_call 23; (with_reducible refine (c _ _ _ _ (by omega) (by omega) (by omega) HR.out (by omega) (by omega)).mono ?_); rintro e wx ⟨rfl, hx⟩))
      go_roundg (i + (j - i))
      case measure => omega
      case rel => exact ⟨i, j - i, _, rfl, by go_num, by go_num, q1, q2, by omega, by omega, (rot_less dk q2 h).trans HE.out, hx⟩
    · have d1 : decide ((i : Int) = (i : Int)) = true := by rw [decide_eq_true_iff]
      have c := C.out (m - i) m i dk
      go_wp2_with (first | (go_at_call 23; (with_reducible refine (c _ _ _ _ (by omega) (by omega) (by omega) HR.out (by omega) (by omega)).mono ?_); rintro e wx ⟨rfl, hx⟩))
      (try simp only [Exit.inBlock, Exit.then]); first | go_end0 | refine bodyPost_ret (results_none rfl _ _ _) rfl ?_
      exact ⟨rfl, hx.congr ((rot_same dk q2).trans HE.out)⟩
    · have d1 : decide ((i : Int) = (j : Int)) = false := by rw [decide_eq_false_iff_not]; omega
      have d2 : decide ((j : Int) < (i : Int)) = true := by rw [decide_eq_true_iff]; omega
      have w4 := wrapN (z := (i : Int) - (j : Int)) (n := i - j) (by omega) (by omega)
      have c := C.out (m - i) m j dk
      go_wp2_with (first | (go_at_call 23; (with_reducible refine (c _ _ _ _ (by omega) (by omega) (by omega) HR.out (by omega) (by omega)).mono ?_); rintro e wx ⟨rfl, hx⟩))
      go_roundg (i - j + j)
      case measure => omega
      case rel =>
        have e := rot_more dk q2 h
        rw [show m - i + j = m - (i - j) by omega] at e
        exact ⟨i - j, j, _, rfl, by go_num, by go_num, by omega, by omega, q3, q4, e.trans HE.out, hx⟩
end Go.Proofs.Ytoglcgijgckdaaa
