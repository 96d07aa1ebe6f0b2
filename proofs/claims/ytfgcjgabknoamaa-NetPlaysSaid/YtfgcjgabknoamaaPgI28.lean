/- net's others: the iterator's contract. Condition: the net is one. -/
import Derived.Test.YtfgcjgabknoamaaRp28
import Derived.Test.YtfgcjgabknoamaaRoundsZ
import Derived.Test.YtfgcjgabknoamaaWpIn
import Derived.Shelf.Abstract
namespace Go.Proofs.Ytfgcjgabknoamaa
set_option linter.unusedVariables false
set_option linter.unusedSimpArgs false
open Go.RowKit Go.Shelf

theorem ka_at {q : Nat → Bool} : ∀ k j, j < k → q j = true → ka q k (kn q j) = j ∧ kn q j < kn q k
  | 0, j, h, _ => by omega
  | k + 1, j, h, hq => by
    by_cases e : j = k
    · subst e
      exact ⟨by rw [ka, if_pos ⟨hq, rfl⟩], by rw [kn, if_pos hq]; omega⟩
    · obtain ⟨h1, h2⟩ := ka_at k j (by omega) hq
      refine ⟨?_, ?_⟩
      · rw [ka, if_neg (fun h => by omega)]; exact h1
      · rw [kn]; split <;> omega
theorem abidesR {β : Type} {J : β → World → Prop} {B : Nat} (hJ : AbidesFrom B J) {xs : β} {W W' : World} (h : J xs W) (hg : W.grownBy W' none) : J xs W' := hJ xs W W' none h hg (fun _ e => by cases e)
/-- what the iterator reads -/
structure Zn (gb gw g : Nat) (who : Int) (ra : Option Addr) (rc k : Nat) (L : Nat → Array Value) (W : World) : Prop where
  b : W.heap[gb]? = some (.cells #[.pointer (some ⟨g, 0, none⟩)] 26 (0, 0))
  w : W.heap[gw]? = some (.cells #[.int .i64 who] 3 (0, 0))
  n : W.heap[g]? = some (.cells #[.slice ra k rc] 56 (0, 0))
  r : RowsT W 60 4 ra k L
theorem Zn.kept {gb gw g : Nat} {who : Int} {ra : Option Addr} {rc k : Nat} {L : Nat → Array Value} {W W' : World} (h : Zn gb gw g who ra rc k L W) (hb : Below W.heap.size W W') : Zn gb gw g who ra rc k L W' :=
  ⟨Ytfgcjgabknoamaa.kept hb h.b, Ytfgcjgabknoamaa.kept hb h.w, Ytfgcjgabknoamaa.kept hb h.n, rowsT_kept h.r hb⟩
/-- where the iterator stands -/
structure At1 (J : Nat × Option Nat → World → Prop) (q : Nat → Bool) (k : Nat) (i : Value) (wr : World) : Prop where
  out : ∃ (j : Nat) (r : Option Nat), j ≤ k ∧ i = .int .i64 j ∧ J (kn q j, r) wr
def pz0 : Array Value := p4 0 0 (.slice none 0 0) 0
set_option maxRecDepth 100000 in
set_option maxHeartbeats 2000000 in
theorem others1_in {gb gw g k s : Nat} {who : Int} {ra : Option Addr} {rc : Nat} {F T Ag : Nat → Int} {S : Nat → Value} (W : World) (l : Nat) (J : Nat × Option Nat → World → Prop) (Jx : Nat → World → Prop) (hJ : AbidesFrom W.heap.size J) (hJx : AbidesFrom W.heap.size Jx)
    (hZ : ∀ p W1, J p W1 → Zn gb gw g who ra rc k (fun i => p4 (F i) (T i) (S i) (Ag i)) W1)
    (hY : ∀ j r W1, j < kn (kpB who F T) k → J (j, r) W1 → YieldAt Fence.wide 7 Try.prog l #[.agg ((fun i => p4 (F i) (T i) (S i) (Ag i)) (ka (kpB who F T) k j))] W1 fun e W' => (e = .returned (.bool true) ∧ W1.heap.size ≤ W'.heap.size ∧ ∃ r', J (j + 1, r') W' ∧ KnR s r W1 W' ∧ RowTo W1 r r') ∨ (e = .returned (.bool false) ∧ Jx (j + 1) W'))
    (hS : ∀ i, ∃ a n c, S i = .slice a n c) (hk : k ≤ 2000) (h0 : J (0, none) W) :
    CallsIn Fence.wide 8 Try.prog 35 #[.func (.yield l) #[] #[], .pointer (some ⟨gb, 0, none⟩), .pointer (some ⟨gw, 0, none⟩)] W fun e W' => (∃ v, e = .returned v) ∧ ((∃ r, J (kn (kpB who F T) k, r) W') ∨ ∃ j, j ≤ kn (kpB who F T) k ∧ Jx j W') := by
  have hz0 := hZ _ _ h0
  have cb := cellF hz0.b
  have cg := cellF hz0.n
  clear hz0
  refine callsIn_of_wp Try.func35 rfl trivial ?_ rfl
  simp only [Try.ntmps35, List.size_toArray, List.length_cons, List.length_nil, Nat.reduceAdd, Nat.reduceSub, Array.replicate_succ, Array.replicate_zero, List.push_toArray, List.append_toArray, List.nil_append, List.cons_append]
  gi_wp2_with fail
  clear cb cg
  gi_loopw [5, 11] (fun _ i wr => At1 J (kpB who F T) k i wr)
    (fun _ i _ => k - (intOf i).toNat)
  case atStart => exact ⟨⟨0, none, Nat.zero_le _, rfl, h0⟩⟩
  case round =>
    obtain ⟨j, r, hj, rfl, hJs⟩ := hrel.out
    clear hrel
    by_cases hlt : j < k
    · have hz := hZ _ _ hJs
      obtain ⟨g2, off2, A2, fr2, rfl, hg2, hn2, hx2⟩ := hz.r j hlt
      have hx3 : A2.extract (off2 + j * 4) (off2 + j * 4 + 4) = p4 (F j) (T j) (S j) (Ag j) := hx2
      have hsz : (p4 (F j) (T j) (S j) (Ag j)).size = 4 := rfl
      have hall : (p4 (F j) (T j) (S j) (Ag j)).all (·.oneCell') = true := by obtain ⟨a9, n9, c9, e9⟩ := hS j; rw [e9]; exact p4_all
      have hc0 : (p4 (F j) (T j) (S j) (Ag j))[0]? = some (.int .i64 (F j)) := rfl
      have hc1 : (p4 (F j) (T j) (S j) (Ag j))[1]? = some (.int .i64 (T j)) := rfl
      have hq : kpB who F T j = (decide (F j ≠ who) && decide (T j ≠ who)) := rfl
      have hkT := fun (h : kpB who F T j = true) => show kn (kpB who F T) (j + 1) = kn (kpB who F T) j + 1 from by rw [kn, if_pos h]
      have hkF := fun (h : kpB who F T j = false) => show kn (kpB who F T) (j + 1) = kn (kpB who F T) j from by rw [kn, h]; rfl
      have hka := fun (h : kpB who F T j = true) => ka_at k j hlt h
      have HP := Lib.hid (show (fun i => p4 (F i) (T i) (S i) (Ag i)) j = p4 (F j) (T j) (S j) (Ag j) from rfl)
      generalize p4 (F j) (T j) (S j) (Ag j) = PX at *
      clear hx2
      refine wpIn_seq (wpIn_wide.2 ?_)
      go_wp2
      refine wpIn_seq (wpIn_cond_true rfl (wpIn_skip ?_))
      refine wpIn_seq (wpIn_block (wpIn_seq (wpIn_wide.2 ?_)))
      go_wp2_with (first | ((with_reducible refine at_load 60 ?_); refine wpList_load_part rfl 60 _ rfl (g2) (off2 + j * 4) rfl _ (A2) _ _ 4 (hg2) Try.underlying60 rfl (by kernel_rfl) (hn2) (PX) (hx3) ?_) | ((with_reducible refine at_alloc 60 ?_); refine wpList_alloc_named rfl 60 rfl (pz0) (by kernel_rfl) ?_) | ((with_reducible refine at_store 60 ?_); refine wpList_store_new rfl 60 _ _ rfl (PX) _ _ _ rfl (by simp) rfl (by rw [hsz]; kernel_rfl) (by rw [hsz]; rfl) (hall) ?_))
      have hb3 := below_new wr (Obj.cells PX 60)
      have hJ3 := abidesR hJ hJs (grownBy_of_below hb3)
      have hpx := heap_alloc_new wr (Obj.cells PX 60)
      have cpx := cellF hpx
      have cwo := cellF (Ytfgcjgabknoamaa.kept hb3 hz.w)
      have hex : PX.extract 0 (0 + 4) = PX := by rw [show 0 + 4 = PX.size by rw [hsz]]; simp
      have HSZ := Lib.hid hsz
      have HEX := Lib.hid hex
      clear hsz hex hx3 hn2
      by_cases hF : F j = who
      · have hqf : kpB who F T j = false := by rw [hq]; simp [hF]
        rw [hF] at hc0
        rw [← hkF hqf] at hJ3
        clear hq hkT hkF hka hY hZ
        gi_wp2_with fail
        refine ⟨fun f hf => absurd hf (by simp), ?_⟩
        gi_wp2_with fail
        go_roundw
        case rel => exact ⟨_, .int .i64 ((j : Int) + 1), ⟨⟨j + 1, r, by omega, by simp, hJ3⟩⟩, _, _, _, _, _, _, _, _, _, _, _, _, _, _, _, _, _, _, _, _, _, _, rfl⟩
        case measure => simp [intOf]; omega
      by_cases hT : T j = who
      · have hqf : kpB who F T j = false := by rw [hq]; simp [hT]
        rw [hT] at hc1
        rw [← hkF hqf] at hJ3
        clear hq hkT hkF hka hY hZ
        generalize F j = f at *
        gi_wp2_with fail
        refine ⟨fun f hf => absurd hf (by simp), ?_⟩
        gi_wp2_with fail
        go_roundw
        case rel => exact ⟨_, .int .i64 ((j : Int) + 1), ⟨⟨j + 1, r, by omega, by simp, hJ3⟩⟩, _, _, _, _, _, _, _, _, _, _, _, _, _, _, _, _, _, _, _, _, _, _, rfl⟩
        case measure => simp [intOf]; omega
      have hqt : kpB who F T j = true := by rw [hq]; simp [hF, hT]
      have hF1 : (F j != who) = true := bne_iff_ne.2 hF
      have hT1 : (T j != who) = true := bne_iff_ne.2 hT
      obtain ⟨fn, tmps, assign, body, hy, hR⟩ := hY _ r _ (hka hqt).2 hJ3
      rw [(hka hqt).1, HP.out] at hy
      have hkt := hkT hqt
      have hknl := (hka hqt).2
      clear hq hkT hkF hka hqt hZ
      generalize F j = f at *
      generalize T j = t at *
      gi_wp2_with (((with_reducible refine at_loadIn 60 ?_); refine wpListIn_load_part rfl 60 _ rfl (wr.heap.size) (0) rfl _ PX _ _ 4 hpx Try.underlying60 rfl (by kernel_rfl) (by rw [HSZ.out]; omega) PX HEX.out ?_))
      refine hR.mono ?_
      rintro e W3 (⟨rfl, hz3, r', hJ4, _, _⟩ | ⟨rfl, hJx3⟩)
      · gi_wp2
        go_roundw
        case rel => exact ⟨_, .int .i64 ((j : Int) + 1), ⟨⟨j + 1, r', by omega, by simp, (by rw [hkt]; exact hJ4)⟩⟩, _, _, _, _, _, _, _, _, _, _, _, _, _, _, _, _, _, _, _, _, _, _, rfl⟩
        case measure => simp [intOf]; omega
      · gi_wp2
        refine bodyPost_ret (results_none rfl _ _ _) rfl ?_
        exact ⟨⟨_, rfl⟩, .inr ⟨_, hknl, hJx3⟩⟩
    · obtain rfl : j = k := by omega
      gi_wp2
      go_end0
      exact ⟨⟨_, rfl⟩, .inl ⟨_, hJs⟩⟩
end Go.Proofs.Ytfgcjgabknoamaa
