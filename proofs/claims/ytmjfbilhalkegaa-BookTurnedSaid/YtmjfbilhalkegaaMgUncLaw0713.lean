/- Texts that UncLaw07 stands on, one behind the other, part 13. Conditions: each theorem names its own. -/
import Derived.Test.YtmjfbilhalkegaaMgUncLaw0712
import Derived.Maps.OwnIn
import Derived.Great.BuildSlice
import Derived.RangeFuncBox
/-! All of a side that is one: the iterator's contract, of rounds that grow a row of their own. Condition: the side is one. -/
namespace Go.Proofs.Ytmjfbilhalkegaa
set_option linter.unusedVariables false
set_option linter.unusedSimpArgs false
open Go.RowKit Go.Shelf
theorem owns_grown {β : Type} {J : β → World → Prop} {B : Nat} (hJ : OwnFrom B J) {xs : β} {W W' : World} (h : J xs W) (hg : W.grownBy W' none) : J xs W' := hJ xs W W' none h hg (fun _ e => by cases e)
set_option maxRecDepth 100000 in
set_option maxHeartbeats 2000000 in
theorem sall1O_in {gb g base k s : Nat} {buy : Bool} {L : Nat → Array Value} (W : World) (l : Nat) (J : Nat × Option Nat → World → Prop) (Jx : Nat → World → Prop) (hJ : OwnFrom W.heap.size J) (hJx : OwnFrom W.heap.size Jx)
    (hY : ∀ j r W1, j < k → J (j, r) W1 → YieldAt Fence.wide 7 Try.prog l #[.agg (L j)] W1 fun e W' => KeepsFrom W.heap.size W1 W' ∧ ((e = .returned (.bool true) ∧ ∃ r', J (j + 1, r') W' ∧ KnR s r W1 W' ∧ RowTo2 W1 W' r r') ∨ (e = .returned (.bool false) ∧ Jx (j + 1) W')))
    (hb : W.heap[gb]? = some (.cells #[.pointer (some ⟨g, 0, none⟩)] 54 (0, 0))) (h : SideIs W g base k buy L) (hs : s ≤ W.heap.size) (h0 : J (0, none) W) :
    CallsIn Fence.wide 8 Try.prog 47 #[.func (.yield l) #[] #[], .pointer (some ⟨gb, 0, none⟩)] W fun e W' => (∃ v, e = .returned v) ∧ ((∃ r, J (k, r) W') ∨ ∃ j, j ≤ k ∧ Jx j W') := by
  have cr := sready_yes h
  obtain ⟨v, hg, hrow⟩ := h.row
  have hk := h.hk
  have HO := Lib.hid h.ord
  obtain ⟨ra, rc, rfl, hR, _, _, hz⟩ := own_rows (c := 5) (fun i => (h.ord i).size) hrow
  have cc := sclone_any ra rc k L W h.ord hR h.hk hz
  have cb := cellF hb
  have cg := cellF hg
  refine callsIn_of_wp Try.func47 rfl trivial ?_ rfl
  simp only [Try.ntmps47, List.size_toArray, List.length_cons, List.length_nil, Nat.reduceAdd, Nat.reduceSub, Array.replicate_succ, Array.replicate_zero, List.push_toArray, List.append_toArray, List.nil_append, List.cons_append]
  gi_wp2_with (first | (refine And.intro (show Fence.wide.fn 39 from trivial) ?_; refine CallsIn.mono (callsIn_wide.2 cr) ?_; rintro e w1 ⟨rfl, rfl⟩) | (refine And.intro (show Fence.wide.fn 46 from trivial) ?_; refine CallsIn.mono (callsIn_wide.2 cc) ?_; rintro e w2 ⟨v2, rfl, ho2, hb2⟩; obtain ⟨ra2, rc2, rfl, hR2, _⟩ := own_rows (c := 5) (fun i => (HO.out i).size) ho2; have hba := own_base ho2))
  have hJ2 : J (0, none) w2 := owns_grown hJ h0 (grownBy_of_below hb2)
  have HR2 := Lib.hid hR2
  have HB := Lib.hid hba
  clear hR2 hba ho2 hR hrow h cr cc hz cb cg hg hb
  gi_loopw [14] (fun i wr => ∃ (j : Nat) (r : Option Nat), j ≤ k ∧ i = .int .i64 j ∧ J (j, r) wr ∧ Kn s w2 wr ∧ (w2.heap.size ≤ wr.heap.size ∧ ∀ i, r = some i → w2.heap.size ≤ i))
    (fun i _ => k - (intOf i).toNat)
  case atStart => exact ⟨0, none, Nat.zero_le _, rfl, hJ2, Kn.refl _ _, Nat.le_refl _, fun i e => by cases e⟩
  case round =>
    obtain ⟨j, r, hj, rfl, hJs, hnx, hwz, hrz⟩ := hrel
    by_cases hlt : j < k
    · obtain ⟨g2, off2, A2, fr2, rfl, hg2, hn2, hx2⟩ := HR2.out j hlt
      have hg3 := hnx g2 _ _ _ (Nat.le_trans hs (HB.out g2 off2 rfl)) hg2
      have hO := HO.out j
      have hsz := hO.size
      refine wpIn_seq (wpIn_wide.2 ?_)
      go_wp2
      refine wpIn_seq (wpIn_cond_true rfl (wpIn_skip ?_))
      refine wpIn_seq (wpIn_block (wpIn_seq (wpIn_wide.2 ?_)))
      go_wp2_with (first | ((with_reducible refine at_load 30 ?_); refine wpList_load_part rfl 30 _ rfl (g2) (off2 + j * 5) rfl _ (A2) _ _ 5 (hg3) Try.underlying30 rfl (by kernel_rfl) (hn2) (L j) (hx2) ?_) | ((with_reducible refine at_alloc 30 ?_); refine wpList_alloc_named rfl 30 rfl (#[.int .u64 0, .int .u32 0, .bool false, .int .i64 0, .int .i64 0]) (by kernel_rfl) ?_) | ((with_reducible refine at_store 30 ?_); refine wpList_store_new rfl 30 _ _ rfl (L j) _ _ _ rfl (by simp) rfl (by rw [hsz]; kernel_rfl) (by rw [hsz]; rfl) (hO.all) ?_))
      have hb3 := below_new wr (Obj.cells (L j) 30)
      have hJ3 := owns_grown hJ hJs (grownBy_of_below hb3)
      obtain ⟨fn, tmps, assign, body, hy, hR⟩ := hY j r _ hlt hJ3
      have hex : (L j).extract 0 (0 + 5) = L j := by rw [show 0 + 5 = (L j).size by rw [hsz]]; simp
      gi_wp2_with (((with_reducible refine at_loadIn 30 ?_); refine wpListIn_load_part rfl 30 _ rfl (wr.heap.size) (0) rfl _ (L j) _ _ 5 (heap_alloc_new _ _) Try.underlying30 rfl (by kernel_rfl) (by rw [hsz]; omega) (L j) hex ?_))
      refine hR.mono ?_
      rintro e W3 ⟨hkf3, ⟨rfl, r', hJ4, hk3, hrt⟩ | ⟨rfl, hJx3⟩⟩
      · gi_wp2
        go_roundw
        case rel =>
          have hz1 := hb3.size
          have hz3 := hkf3.size
          refine ⟨j + 1, r', by omega, by simp, hJ4, fun i c t fr hi h1 => hk3 i c t fr hi (fun e => ?_) (kn_below (s := s) hb3 i c t fr hi (hnx i c t fr hi h1)), by omega, fun i e => ?_⟩
          · have h2 := hrz i e.symm
            have h3 := (Array.getElem?_eq_some_iff.1 h1).1
            omega
          · rcases hrt with e1 | ⟨i', e1, hi', _⟩
            · exact hrz i (by rw [← e1]; exact e)
            · rw [e1] at e; cases e; omega
        case measure => simp [intOf]; omega
      · gi_wp2
        refine bodyPost_ret (results_none rfl _ _ _) rfl ?_
        exact ⟨⟨_, rfl⟩, .inr ⟨j + 1, by omega, hJx3⟩⟩
    · obtain rfl : j = k := by omega
      gi_wp2
      go_end0
      exact ⟨⟨_, rfl⟩, .inl ⟨_, hJs⟩⟩
theorem sall_seqO {gb g base k s : Nat} {buy : Bool} {L : Nat → Array Value} {w : World} (hb : w.heap[gb]? = some (.cells #[.pointer (some ⟨g, 0, none⟩)] 54 (0, 0))) (h : SideIs w g base k buy L) (hs : s ≤ w.heap.size) :
    SeqO Try.prog 47 #[.pointer (some ⟨gb, 0, none⟩)] (fun j => #[.agg (L j)]) k s w := fun l J Jx W hW hJ hJx hY h0 =>
  sall1O_in W l J Jx hJ hJx hY (Ytmjfbilhalkegaa.kept hW hb) (h.kept hW) (Nat.le_trans hs hW.size) h0
end Go.Proofs.Ytmjfbilhalkegaa
/-! A round of an outer loop, entered from a round of an inner one. No condition. -/
namespace Go.Proofs.Ytmjfbilhalkegaa
set_option linter.unusedVariables false
set_option linter.unusedSimpArgs false
open Go.RowKit Go.Shelf
theorem roundIn_any {n m l l2 : Nat} {P : Program} {f : FuncId} {tmps : Array Value} {assign body : Code} {w : World} {R : Ending → World → Prop} (h : RoundIn Fence.wide n P l f tmps assign body w R) : RoundIn (Fence.wide.inRound l2) m P l f tmps assign body w R :=
  ⟨h.1, fun c cs _ => h.2 c cs (fun d hd => by cases hd)⟩
theorem yieldAt_any {n m l l2 : Nat} {P : Program} {args : Array Value} {w : World} {R : Ending → World → Prop} (h : YieldAt Fence.wide n P l args w R) : YieldAt (Fence.wide.inRound l2) m P l args w R := by
  obtain ⟨fn, tmps, assign, body, h1, h2⟩ := h
  exact ⟨fn, tmps, assign, body, h1, roundIn_any h2⟩
end Go.Proofs.Ytmjfbilhalkegaa
/-! All of a book that is there: the iterator's contract. Condition: the book is one. -/
namespace Go.Proofs.Ytmjfbilhalkegaa
set_option linter.unusedVariables false
set_option linter.unusedSimpArgs false
open Go.RowKit Go.Shelf Go.Deep
attribute [local go_sem] Oper.semAt_some

theorem od_app1 {l1 l2 : List Od} {j : Nat} (h : j < l1.length) : od (l1 ++ l2) j = od l1 j := by
  unfold od
  rw [List.getD_eq_getElem?_getD, List.getD_eq_getElem?_getD, List.getElem?_append_left h]
theorem od_app2 {l1 l2 : List Od} {j : Nat} : od (l1 ++ l2) (l1.length + j) = od l2 j := by
  unfold od
  rw [List.getD_eq_getElem?_getD, List.getD_eq_getElem?_getD, List.getElem?_append_right (by omega), Nat.add_sub_cancel_left]
theorem wp_gen {P : Program} {c : Code} {Q : Exit → Act → World → Prop} {T : Array Value} {ds : List Deferred} {w : World} (lit : (Nat → Value) → Array Value) (hT : T = lit (fun i => T.getD i undef)) (h : ∀ u, c.wp P Q ⟨lit u, ds⟩ w) : c.wp P Q ⟨T, ds⟩ w := by rw [hT]; exact h _
theorem Kn.trans' {lo s : Nat} {r : Option Nat} {A B C : World} (h : Kn lo A B) (hs : s ≤ lo) (hr : ∀ i, r = some i → A.heap.size ≤ i) (hk : KnR s r B C) : Kn lo A C := fun i c t fr hi h1 =>
  hk i c t fr (by omega) (fun e => by have := hr i e.symm; have := (Array.getElem?_eq_some_iff.1 h1).1; omega) (h i c t fr hi h1)
theorem sl_kn {w W : World} {lo g base : Nat} {b : Bool} {l : List Od} (h : SL w g base b l) (hlo : lo ≤ base) (hk : Kn lo w W) : SL W g base b l := by
  obtain ⟨v, hg, hr⟩ := h.s.row
  exact ⟨⟨⟨v, hk g _ _ _ (by have := h.s.bg; omega) hg, own_sameT hr (fun q A e hq => hk q _ _ _ (by have := (hr.lt q e).1; omega) hq)⟩, h.s.ord, h.s.bg, h.s.hk⟩, h.ok⟩
/-- what the rounds of a pass keep -/
def BalI (J : Nat × Option Nat → World → Prop) (w3 : World) (W0 d sP : Nat) (p : Nat × Option Nat) (W : World) : Prop := (∃ r, J (d + p.1, r) W ∧ (p.2 = r ∨ (p.2 = none ∧ ∀ i, r = some i → i < sP)) ∧ ∀ i, r = some i → w3.heap.size ≤ i ∧ i < W.heap.size) ∧ Kn W0 w3 W ∧ sP ≤ W.heap.size
theorem balI_own {J : Nat × Option Nat → World → Prop} {w3 : World} {W0 d sP : Nat} (hJ : OwnFrom W0 J) (hs : W0 ≤ sP) : OwnFrom sP (BalI J w3 W0 d sP) := fun p W W' row ⟨⟨r, h1, h2, h3⟩, h4, h5⟩ hg hr =>
  ⟨⟨r, hJ _ W W' row h1 hg (fun i e => ⟨Nat.le_trans hs (hr i e).1, (hr i e).2⟩), h2, fun i e => ⟨(h3 i e).1, Nat.lt_of_lt_of_le (h3 i e).2 hg.size⟩⟩, h4.trans (fun i c t fr _ h => (hg.block i (Array.getElem?_eq_some_iff.1 h).1 (fun e => by
    obtain ⟨_, o, ho, hc⟩ := hr i e.symm
    rw [h] at ho
    cases ho
    exact absurd hc (by simp [Obj.isCells]))).trans h), Nat.le_trans h5 hg.size⟩
/-- a round's step -/
theorem balI_step {J : Nat × Option Nat → World → Prop} {w3 W W' : World} {W0 d sP s j : Nat} {r ρ r' : Option Nat} (hs : s ≤ W0) (h2 : ρ = r ∨ (ρ = none ∧ ∀ i, r = some i → i < sP)) (h3 : ∀ i, r = some i → w3.heap.size ≤ i ∧ i < W.heap.size) (h4 : Kn W0 w3 W) (h5 : sP ≤ W.heap.size) (hsP : w3.heap.size ≤ sP) (hW : W0 ≤ sP)
    (hz : W.heap.size ≤ W'.heap.size) (hj : J (d + (j + 1), r') W') (hk : KnR s r W W') (hrt : RowTo2 W W' r r') : ∃ ρ', KnR sP ρ W W' ∧ RowTo2 W W' ρ ρ' ∧ BalI J w3 W0 d sP (j + 1, ρ') W' := by
  have hk1 : KnR sP ρ W W' := fun i c t fr hi hne h => hk i c t fr (by omega) (fun e => by
    rcases h2 with h2 | ⟨_, h2⟩
    · exact hne (e.trans h2.symm)
    · have := h2 i e.symm; omega) h
  have hk2 : Kn W0 w3 W' := h4.trans' hs (fun i h => by have := h3 i h; omega) hk
  rcases hrt with e | ⟨i, e, hi, hi2⟩
  · refine ⟨ρ, hk1, .inl rfl, ⟨r', hj, ?_, fun i hi => by have := h3 i (by rw [← e]; exact hi); omega⟩, hk2, by omega⟩
    rw [e]; exact h2
  · exact ⟨r', hk1, .inr ⟨i, e, hi, hi2⟩, ⟨r', hj, .inl rfl, fun i' hi' => by rw [e] at hi'; cases hi'; omega⟩, hk2, by omega⟩
set_option maxRecDepth 100000 in
set_option maxHeartbeats 4000000 in
theorem ball1_in {gx g gb gs base s : Nat} {lb ls : List Od} (W : World) (l : Nat) (J : Nat × Option Nat → World → Prop) (Jx : Nat → World → Prop) (hJ : OwnFrom W.heap.size J) (hJx : OwnFrom W.heap.size Jx)
    (hY : ∀ j r W1, j < (lb ++ ls).length → J (j, r) W1 → YieldAt Fence.wide 7 Try.prog l #[.agg (oa (od (lb ++ ls) j))] W1 fun e W' => KeepsFrom W.heap.size W1 W' ∧ ((e = .returned (.bool true) ∧ ∃ r', J (j + 1, r') W' ∧ KnR s r W1 W' ∧ RowTo2 W1 W' r r') ∨ (e = .returned (.bool false) ∧ Jx (j + 1) W')))
    (hb : W.heap[gx]? = some (.cells #[.pointer (some ⟨g, 0, none⟩)] 23 (0, 0))) (h : BkG W g gb gs base lb ls) (hs : s ≤ W.heap.size) (h0 : J (0, none) W) :
    CallsIn Fence.wide 8 Try.prog 35 #[.func (.yield l) #[] #[], .pointer (some ⟨gx, 0, none⟩)] W fun e W' => (∃ v, e = .returned v) ∧ ((∃ r, J ((lb ++ ls).length, r) W') ∨ ∃ j, j ≤ (lb ++ ls).length ∧ Jx j W') := by
  refine callsIn_wide.2 ?_
  have hbn := below_new W (Obj.cells #[.func (.yield l) #[] #[]] 66)
  have HH := Lib.hid (h.kept hbn)
  have cb := cellF (Ytmjfbilhalkegaa.kept hbn hb)
  clear h
  refine calls_marks Try.func35 rfl ?_
  simp only [Try.ntmps35, List.size_toArray, List.length_cons, List.length_nil, Nat.reduceAdd, Nat.reduceSub, Array.replicate_succ, Array.replicate_zero, List.push_toArray, List.append_toArray, List.nil_append, List.cons_append]
  go_wp2_with (first | (go_at_call 25; (with_reducible refine ((bready_yes HH.out)).mono ?_); rintro e w1 ⟨rfl, rfl⟩) | (go_at_call 18; (with_reducible refine ((bcopy_in HH.out)).mono ?_); rintro e w2 ⟨g2, gb2, gs2, rfl, hB2, hb2⟩))
  have c2 := cellF hB2.row
  go_region
  have hn3 := heap_alloc_new w2 (Obj.cells #[.pointer (some ⟨gb2, 0, none⟩), .pointer (some ⟨gs2, 0, none⟩)] 54)
  obtain ⟨w3, hw3⟩ : ∃ w3, w3 = (w2.alloc (Obj.cells #[.pointer (some ⟨gb2, 0, none⟩), .pointer (some ⟨gs2, 0, none⟩)] 54)).drew := ⟨_, rfl⟩
  have hb3 : Below w2.heap.size w2 w3 := by rw [hw3]; exact Below.drew (below_new _ _)
  have hg3 : w3.heap[w2.heap.size]? = some (.cells #[.pointer (some ⟨gb2, 0, none⟩), .pointer (some ⟨gs2, 0, none⟩)] 54 (0, 0)) := by rw [hw3]; exact hn3
  rw [← hw3]
  clear hw3 hn3
  have hT3 := hB2.two.kept hb3
  obtain ⟨b2, hb2e⟩ : ∃ b2, b2 = (W.alloc (Obj.cells #[Value.func (Fn.yield l) #[] #[]] 66)).heap.size := ⟨_, rfl⟩
  have hb20 : W.heap.size ≤ b2 := by rw [hb2e]; simp
  rw [← hb2e] at hT3
  clear hb2e
  have hBW3 := below_then (below_then hbn hb2) hb3
  have hyb := Ytmjfbilhalkegaa.kept (below_then hb2 hb3) (heap_alloc_new W (Obj.cells #[.func (.yield l) #[] #[]] 66))
  have hn0 : W.heap.size < w2.heap.size := by have := hb2.size; simp at this; omega
  have hn3 := (Array.getElem?_eq_some_iff.1 hg3).1
  have hJ3 := owns_grown hJ h0 (grownBy_of_below hBW3)
  obtain ⟨W0, hW0⟩ : ∃ W0, W0 = W.heap.size := ⟨_, rfl⟩
  obtain ⟨n2, hn2⟩ : ∃ n2, n2 = w2.heap.size := ⟨_, rfl⟩
  clear hB2 hb2 hb3 c2 cb hb HH hbn h0 hBW3
  rw [← hn2] at hg3 hn0 hn3 ⊢
  rw [← hW0] at hyb hn0 hJ hJx hY hs hb20 ⊢
  clear hW0 hn2
  have cg3 := cellF hg3
  go_wp2_with fail
  refine wp_loop_rounds 3 ?_
  rw [rounds_succ]
  go_wp2_with ((go_at_call 36; (with_reducible refine (sall_any _).mono ?_); rintro e w6 ⟨rfl, rfl⟩))
  have hbox1 := heap_alloc_new w3 (Obj.cells #[Value.pointer (some ⟨gb2, 0, none⟩)] 54)
  have hb51 := below_new w3 (Obj.cells #[Value.pointer (some ⟨gb2, 0, none⟩)] 54)
  have hz51 : (w3.alloc (Obj.cells #[Value.pointer (some ⟨gb2, 0, none⟩)] 54)).heap.size = w3.heap.size + 1 := by simp
  obtain ⟨w51, hw5⟩ : ∃ w51, w51 = w3.alloc (Obj.cells #[Value.pointer (some ⟨gb2, 0, none⟩)] 54) := ⟨_, rfl⟩
  rw [← hw5] at hbox1 hb51 hz51 ⊢
  clear hw5
  have hSL1 := hT3.b.kept hb51
  refine wp_gen (fun u => #[u 0, u 1, .pointer (some ⟨W0, 0, none⟩), u 3, u 4, u 5, u 6, u 7, u 8, u 9, u 10, u 11, u 12, u 13, u 14, u 15, u 16, u 17, u 18, u 19, .slice (some ⟨n2, 0, none⟩) 2 2, .int .i64 2, .int .i64 0, u 23, u 24, u 25, u 26, .func (.func 47) #[] #[.pointer (some ⟨w3.heap.size, 0, none⟩)], u 28, u 29, u 30, u 31, u 32, u 33]) (by rfl) (fun u => ?_)
  refine range_roundsO (gf := 47) (lb := #[.pointer (some ⟨w3.heap.size, 0, none⟩)]) (encs := fun j => #[.agg (oa (od lb j))]) (k := lb.length) rfl (enters_of Try.func47 (by kernel_rfl) rfl) (fun _ => rfl) (sall_seqO hbox1 hSL1.s (Nat.le_refl _))
    (fun p W => BalI J w3 W0 0 w51.heap.size p W ∧ True) (fun c j W => c = .ret ∧ (∃ i, i ≤ (lb ++ ls).length ∧ Jx i W) ∧ True) ?oI1 ?oX1 ?i01 (fun j W => W.alloc (.cells (oa (od lb j)) 30)) (fun j W => World.grownBy_alloc W _ none)
    (fun j V0 => { tmps := #[u 0, u 1, .pointer (some ⟨W0, 0, none⟩), u 3, u 4, u 5, .pointer (some ⟨V0.heap.size, 0, none⟩), u 7, u 8, u 9, u 10, u 11, u 12, u 13, u 14, u 15, u 16, u 17, u 18, u 19, .slice (some ⟨n2, 0, none⟩) 2 2, .int .i64 2, .int .i64 0, u 23, u 24, u 25, u 26, .func (.func 47) #[] #[.pointer (some ⟨w3.heap.size, 0, none⟩)], .agg (oa (od lb j)), u 29, u 30, u 31, u 32, u 33], defers := [] }) ?assign1 ?body1 ?done1 ?stop1
  case oI1 => exact OwnFrom.and (balI_own hJ (by omega)) (fun _ _ _ _ _ _ _ => trivial)
  case oX1 =>
    rintro c j W W' row ⟨h1, ⟨i, h2, h3⟩, h4⟩ hg hr
    exact ⟨h1, ⟨i, h2, hJx i W W' row h3 hg (fun i e => ⟨by have := (hr i e).1; omega, (hr i e).2⟩)⟩, (fun _ _ _ _ _ _ _ => trivial) j W W' row h4 hg hr⟩
  case i01 => exact ⟨⟨⟨none, owns_grown hJ hJ3 (grownBy_of_below hb51), .inl rfl, fun i e => by cases e⟩, kn_below hb51, Nat.le_refl _⟩, trivial⟩
  case assign1 =>
    intro l2 j W K hj hK
    have hO := oa_ord (od_ok hT3.b.ok j)
    have hsz := hO.size
    refine wpIn_lit (t := #[u 0, u 1, .pointer (some ⟨W0, 0, none⟩), u 3, u 4, u 5, u 6, u 7, u 8, u 9, u 10, u 11, u 12, u 13, u 14, u 15, u 16, u 17, u 18, u 19, .slice (some ⟨n2, 0, none⟩) 2 2, .int .i64 2, .int .i64 0, u 23, u 24, u 25, u 26, .func (.func 47) #[] #[.pointer (some ⟨w3.heap.size, 0, none⟩)], .agg (oa (od lb j)), u 29, u 30, u 31, u 32, u 33]) (by simp) ?_
    generalize oa (od lb j) = OA at *
    gi_wp2_with (first | ((with_reducible refine at_allocIn 30 ?_); refine wpListIn_alloc_named rfl 30 rfl (#[.int .u64 0, .int .u32 0, .bool false, .int .i64 0, .int .i64 0]) (by kernel_rfl) ?_) | ((with_reducible refine at_storeIn 30 ?_); refine wpListIn_store_new rfl 30 _ _ rfl (OA) _ _ _ rfl (by simp) rfl (by rw [hsz]; kernel_rfl) (by rw [hsz]; rfl) (hO.all) ?_))
    exact hK
  case body1 =>
    rintro l2 j ρ V0 W hj ⟨⟨⟨r, hJr, hρ, hr3⟩, hkn, hsz⟩, hX⟩ hsV hup _
    have hyW := hkn _ _ _ _ (Nat.le_refl _) hyb
    have cy := cellF hyW
    have hO := oa_ord (od_ok hT3.b.ok j)
    have hos := hO.size
    have hv := hup _ _ _ _ (heap_alloc_new V0 (Obj.cells (oa (od lb j)) 30))
    obtain ⟨fn, tmps, assign, body, hy, hR⟩ := yieldAt_any (m := 6) (l2 := l2) (hY (0 + j) r W (by rw [List.length_append]; omega) hJr)
    have hod : od (lb ++ ls) (0 + j) = od lb j := by rw [Nat.zero_add]; exact od_app1 hj
    rw [hod] at hy
    have hex : (oa (od lb j)).extract 0 (0 + 5) = oa (od lb j) := by rw [show 0 + 5 = (oa (od lb j)).size from rfl]; simp
    have HR := Lib.hid hR
    have HK := Lib.hid (And.intro hkn (And.intro hρ hr3))
    have HSZ := Lib.hid hsz
    have HX9 := Lib.hid hX
    clear hR hkn hρ hr3 hsz hup hX
    generalize oa (od lb j) = OA at *
    gi_wp2_with (((with_reducible refine at_loadIn 30 ?_); refine wpListIn_load_part rfl 30 _ rfl (V0.heap.size) (0) rfl _ (OA) _ _ 5 (hv) Try.underlying30 rfl (by kernel_rfl) (by rw [hos]; omega) (OA) (hex) ?_))
    refine HR.out.mono ?_
    rintro e W3 ⟨hkf, ⟨rfl, r', hj3, hk3, hrt⟩ | ⟨rfl, hx3⟩⟩
    · have hkf' : KeepsFrom w51.heap.size W W3 := ⟨hkf.size, fun q o hq => hkf.same q o (by omega)⟩
      obtain ⟨ρ', q1, q2, q3⟩ := balI_step hs HK.out.2.1 HK.out.2.2 HK.out.1 HSZ.out (by omega) (by omega) hkf.size hj3 hk3 hrt
      have HQ := Lib.hid (And.intro hkf' (And.intro q1 (And.intro q2 (And.intro q3 (trivial)))))
      clear hkf' q1 q2 q3 hkf hj3 hk3 hrt
      gi_wp2
      exact ⟨HQ.out.1, ρ', HQ.out.2.1, HQ.out.2.2.1, HQ.out.2.2.2⟩
    · have hkf' : KeepsFrom w51.heap.size W W3 := ⟨hkf.size, fun q o hq => hkf.same q o (by omega)⟩
      have HQ := Lib.hid (And.intro hkf' (And.intro hx3 (trivial)))
      clear hkf' hkf hx3
      gi_wp2
      exact ⟨HQ.out.1, rfl, ⟨_, by rw [List.length_append]; omega, HQ.out.2.1⟩, HQ.out.2.2⟩
  case done1 =>
    rintro D ρ WA hD ⟨⟨⟨r, hJr, hρ, hr3⟩, hkn, hszA⟩, _⟩ hK
    have hgA := hkn n2 _ _ _ (by omega) hg3
    have cgA := cellF hgA
    have hSA := sl_kn hT3.s (by omega) hkn
    have hDA := (Array.getElem?_eq_some_iff.1 hK).1
    clear hρ
    rw [show 0 + lb.length = lb.length by omega] at hJr
    go_wp2_with fail
    rw [rounds_succ]
    go_wp2_with ((go_at_call 36; (with_reducible refine (sall_any _).mono ?_); rintro e w6 ⟨rfl, rfl⟩))
    have hbox2 := heap_alloc_new WA (Obj.cells #[Value.pointer (some ⟨gs2, 0, none⟩)] 54)
    have hb52 := below_new WA (Obj.cells #[Value.pointer (some ⟨gs2, 0, none⟩)] 54)
    have hz52 : (WA.alloc (Obj.cells #[Value.pointer (some ⟨gs2, 0, none⟩)] 54)).heap.size = WA.heap.size + 1 := by simp
    obtain ⟨w52, hw5⟩ : ∃ w52, w52 = WA.alloc (Obj.cells #[Value.pointer (some ⟨gs2, 0, none⟩)] 54) := ⟨_, rfl⟩
    rw [← hw5] at hbox2 hb52 hz52 ⊢
    clear hw5
    have hSL2 := hSA.kept hb52
    refine wp_gen (fun u => #[u 0, u 1, .pointer (some ⟨W0, 0, none⟩), u 3, u 4, u 5, u 6, u 7, u 8, u 9, u 10, u 11, u 12, u 13, u 14, u 15, u 16, u 17, u 18, u 19, .slice (some ⟨n2, 0, none⟩) 2 2, .int .i64 2, .int .i64 1, u 23, u 24, u 25, u 26, .func (.func 47) #[] #[.pointer (some ⟨WA.heap.size, 0, none⟩)], u 28, u 29, u 30, u 31, u 32, u 33]) (by rfl) (fun u => ?_)
    refine range_roundsO (gf := 47) (lb := #[.pointer (some ⟨WA.heap.size, 0, none⟩)]) (encs := fun j => #[.agg (oa (od ls j))]) (k := ls.length) rfl (enters_of Try.func47 (by kernel_rfl) rfl) (fun _ => rfl) (sall_seqO hbox2 hSL2.s (Nat.le_refl _))
      (fun p W => BalI J w3 W0 lb.length w52.heap.size p W ∧ W.heap[D]? = some (.deferred (some []))) (fun c j W => c = .ret ∧ (∃ i, i ≤ (lb ++ ls).length ∧ Jx i W) ∧ W.heap[D]? = some (.deferred (some []))) ?oI2 ?oX2 ?i02 (fun j W => W.alloc (.cells (oa (od ls j)) 30)) (fun j W => World.grownBy_alloc W _ none)
      (fun j V0 => { tmps := #[u 0, u 1, .pointer (some ⟨W0, 0, none⟩), u 3, u 4, u 5, .pointer (some ⟨V0.heap.size, 0, none⟩), u 7, u 8, u 9, u 10, u 11, u 12, u 13, u 14, u 15, u 16, u 17, u 18, u 19, .slice (some ⟨n2, 0, none⟩) 2 2, .int .i64 2, .int .i64 1, u 23, u 24, u 25, u 26, .func (.func 47) #[] #[.pointer (some ⟨WA.heap.size, 0, none⟩)], .agg (oa (od ls j)), u 29, u 30, u 31, u 32, u 33], defers := [] }) ?assign2 ?body2 ?done2 ?stop2
    case oI2 => exact OwnFrom.and (balI_own hJ (by omega)) (fun p W W' row h4 hg hr => (hg.block D (Array.getElem?_eq_some_iff.1 h4).1 (fun e => by have := (hr D e.symm).1; omega)).trans h4)
    case oX2 =>
      rintro c j W W' row ⟨h1, ⟨i, h2, h3⟩, h4⟩ hg hr
      exact ⟨h1, ⟨i, h2, hJx i W W' row h3 hg (fun i e => ⟨by have := (hr i e).1; omega, (hr i e).2⟩)⟩, (fun p W W' row h4 hg hr => (hg.block D (Array.getElem?_eq_some_iff.1 h4).1 (fun e => by have := (hr D e.symm).1; omega)).trans h4) j W W' row h4 hg hr⟩
    case i02 => exact ⟨⟨⟨r, owns_grown hJ hJr (grownBy_of_below hb52), .inr ⟨rfl, fun i e => by have := (hr3 i e).2; omega⟩, fun i e => by have := hr3 i e; omega⟩, hkn.trans (kn_below hb52), Nat.le_refl _⟩, Ytmjfbilhalkegaa.kept hb52 hK⟩
    case assign2 =>
      intro l2 j W K hj hK
      have hO := oa_ord (od_ok hSA.ok j)
      have hsz := hO.size
      refine wpIn_lit (t := #[u 0, u 1, .pointer (some ⟨W0, 0, none⟩), u 3, u 4, u 5, u 6, u 7, u 8, u 9, u 10, u 11, u 12, u 13, u 14, u 15, u 16, u 17, u 18, u 19, .slice (some ⟨n2, 0, none⟩) 2 2, .int .i64 2, .int .i64 1, u 23, u 24, u 25, u 26, .func (.func 47) #[] #[.pointer (some ⟨WA.heap.size, 0, none⟩)], .agg (oa (od ls j)), u 29, u 30, u 31, u 32, u 33]) (by simp) ?_
      generalize oa (od ls j) = OA at *
      gi_wp2_with (first | ((with_reducible refine at_allocIn 30 ?_); refine wpListIn_alloc_named rfl 30 rfl (#[.int .u64 0, .int .u32 0, .bool false, .int .i64 0, .int .i64 0]) (by kernel_rfl) ?_) | ((with_reducible refine at_storeIn 30 ?_); refine wpListIn_store_new rfl 30 _ _ rfl (OA) _ _ _ rfl (by simp) rfl (by rw [hsz]; kernel_rfl) (by rw [hsz]; rfl) (hO.all) ?_))
      exact hK
    case body2 =>
      rintro l2 j ρ V0 W hj ⟨⟨⟨r, hJr, hρ, hr3⟩, hkn, hsz⟩, hX⟩ hsV hup _
      have hyW := hkn _ _ _ _ (Nat.le_refl _) hyb
      have cy := cellF hyW
      have hO := oa_ord (od_ok hSA.ok j)
      have hos := hO.size
      have hv := hup _ _ _ _ (heap_alloc_new V0 (Obj.cells (oa (od ls j)) 30))
      obtain ⟨fn, tmps, assign, body, hy, hR⟩ := yieldAt_any (m := 6) (l2 := l2) (hY (lb.length + j) r W (by rw [List.length_append]; omega) hJr)
      have hod : od (lb ++ ls) (lb.length + j) = od ls j := od_app2
      rw [hod] at hy
      have hex : (oa (od ls j)).extract 0 (0 + 5) = oa (od ls j) := by rw [show 0 + 5 = (oa (od ls j)).size from rfl]; simp
      have HR := Lib.hid hR
      have HK := Lib.hid (And.intro hkn (And.intro hρ hr3))
      have HSZ := Lib.hid hsz
      have HX9 := Lib.hid hX
      clear hR hkn hρ hr3 hsz hup hX
      generalize oa (od ls j) = OA at *
      gi_wp2_with (((with_reducible refine at_loadIn 30 ?_); refine wpListIn_load_part rfl 30 _ rfl (V0.heap.size) (0) rfl _ (OA) _ _ 5 (hv) Try.underlying30 rfl (by kernel_rfl) (by rw [hos]; omega) (OA) (hex) ?_))
      refine HR.out.mono ?_
      rintro e W3 ⟨hkf, ⟨rfl, r', hj3, hk3, hrt⟩ | ⟨rfl, hx3⟩⟩
      · have hkf' : KeepsFrom w52.heap.size W W3 := ⟨hkf.size, fun q o hq => hkf.same q o (by omega)⟩
        obtain ⟨ρ', q1, q2, q3⟩ := balI_step hs HK.out.2.1 HK.out.2.2 HK.out.1 HSZ.out (by omega) (by omega) hkf.size hj3 hk3 hrt
        have HQ := Lib.hid (And.intro hkf' (And.intro q1 (And.intro q2 (And.intro q3 (hkf.same D _ (by omega) HX9.out rfl)))))
        clear hkf' q1 q2 q3 hkf hj3 hk3 hrt
        gi_wp2
        exact ⟨HQ.out.1, ρ', HQ.out.2.1, HQ.out.2.2.1, HQ.out.2.2.2⟩
      · have hkf' : KeepsFrom w52.heap.size W W3 := ⟨hkf.size, fun q o hq => hkf.same q o (by omega)⟩
        have HQ := Lib.hid (And.intro hkf' (And.intro hx3 (hkf.same D _ (by omega) HX9.out rfl)))
        clear hkf' hkf hx3
        gi_wp2
        exact ⟨HQ.out.1, rfl, ⟨_, by rw [List.length_append]; omega, HQ.out.2.1⟩, HQ.out.2.2⟩
    case done2 =>
      rintro D2 ρ2 W hD2 ⟨⟨⟨r2, hJ2, hρ2, hr2⟩, hkn2, hsz2⟩, hX2⟩ hK2
      go_wp2_with fail
      rw [rounds_succ]
      go_wp2_with fail
      refine leaves_cons hK2 (leaves_cons (put_other hK2 hX2 (by omega)) (leaves_nil (results_none rfl _ _ _) ⟨⟨_, rfl⟩, .inl ⟨r2, ?_⟩⟩))
      rw [List.length_append]
      exact hJ.putObj _ (hJ.putObj _ hJ2 (by omega) hK2 rfl) (by omega) (put_other hK2 hX2 (by omega)) rfl
    case stop2 =>
      rintro D2 c j W hD2 hj ⟨rfl, ⟨i, hi, hjx⟩, hX2⟩ hK2
      go_wp2_with fail
      exact leaves_cons hK2 (leaves_cons (put_other hK2 hX2 (by omega)) (leaves_nil (results_none rfl _ _ _) ⟨⟨_, rfl⟩, .inr ⟨i, hi, hJx.putObj _ (hJx.putObj _ hjx (by omega) hK2 rfl) (by omega) (put_other hK2 hX2 (by omega)) rfl⟩⟩))
  case stop1 =>
    rintro D c j W hD hj ⟨rfl, ⟨i, hi, hjx⟩, _⟩ hK
    go_wp2_with fail
    exact leaves_cons hK (leaves_nil (results_none rfl _ _ _) ⟨⟨_, rfl⟩, .inr ⟨i, hi, hJx.putObj _ hjx (by omega) hK rfl⟩⟩)
theorem ball_seqO {gx g gb gs base s : Nat} {lb ls : List Od} {w : World} (hb : w.heap[gx]? = some (.cells #[.pointer (some ⟨g, 0, none⟩)] 23 (0, 0))) (h : BkG w g gb gs base lb ls) (hs : s ≤ w.heap.size) :
    SeqO Try.prog 35 #[.pointer (some ⟨gx, 0, none⟩)] (fun j => #[.agg (oa (od (lb ++ ls) j))]) (lb ++ ls).length s w := fun l J Jx W hW hJ hJx hY h0 =>
  ball1_in W l J Jx hJ hJx hY (Ytmjfbilhalkegaa.kept hW hb) (h.kept hW) (Nat.le_trans hs hW.size) h0
end Go.Proofs.Ytmjfbilhalkegaa
/-! The law's orders of a book that is there, walked. Condition: the book is one. -/
namespace Go.Proofs.Ytmjfbilhalkegaa
set_option linter.unusedVariables false
set_option linter.unusedSimpArgs false
open Go.RowKit Go.Shelf Go.Deep
attribute [local go_sem] Oper.semAt_some

section
variable {P : Program} {F : Fence} {n : Nat} {ops : Array Oper} {rest : List Oper} {o : Oper} {a : Act} {w : World} {Q : Exit → Act → World → Prop}
theorem at_slice1In (T : TypeId) {d : Option Tmp} {m : Nat} {ps : Array (Nat × Operand)} {ty : TypeId} {pos : String} {af : Array Edge} {gd : Option (Nat × Bool)}
    (h : wpListIn F n P ops Q (⟨d, .buildSlice T m ps, ty, pos, af, gd⟩ :: rest) a w) : wpListIn F n P ops Q (⟨d, .buildSlice T m ps, ty, pos, af, gd⟩ :: rest) a w := h
theorem at_appendIn (T : TypeId) {d : Option Tmp} {xs : Array Operand} {ts : Array TypeId} {ty : TypeId} {pos : String} {af : Array Edge} {gd : Option (Nat × Bool)}
    (h : wpListIn F n P ops Q (⟨d, .call { callee := .builtin .append, args := xs, argTypes := ts }, ty, pos, af, gd⟩ :: rest) a w) : wpListIn F n P ops Q (⟨d, .call { callee := .builtin .append, args := xs, argTypes := ts }, ty, pos, af, gd⟩ :: rest) a w := h
theorem wpListIn_slice1c (hgd : Region.wanted o (yielded ops a.tmps) = true) (t e : TypeId) (x : Operand) (ho : o.op = .buildSlice t 1 #[(0, x)])
    (B : Array Value) (c : Nat) (hx : a.eval x = .agg B) (hB : B.size = c) (ie : TypeInfo) (z : Value) (hu : P.underlying t = some (.slice e)) (hie : P.info? e = some ie) (hz : ie.zero = some z) (h4 : ie.size = c) (hz4 : z.cells.size = c) (hc : 0 < c) (hc2 : c ≤ 1000)
    (h : wpListIn F n P ops Q rest (a.put o.dst (.slice (some ⟨w.heap.size, 0, none⟩) 1 1)) (w.alloc (.cells B e))) : wpListIn F n P ops Q (o :: rest) a w :=
  wpListIn_step fun K hK => by
    rw [if_pos hgd]
    refine wpIn_of_run (by simp [ho]) (by unfold Oper.about; rw [ho]) (v := .slice (some ⟨w.heap.size, 0, none⟩) 1 1) (w1 := w.alloc (.cells B e)) (.inl ?_) (hK _ _ h)
    have hf : Instr.fill (fun i => some (i * ie.size, ie.size)) ((Array.range (1 * ie.size)).map (z.cells[· % z.cells.size]!)) ((#[(0, x)] : Array (Nat × Operand)).map fun (i, x) => (i, a.eval x)).toList = some B := by
      have e1 : ((#[(0, x)] : Array (Nat × Operand)).map fun (i, x) => (i, a.eval x)).toList = [(0, Value.agg B)] := by rw [← hx]; simp
      rw [e1, h4]
      exact fill_oneg hB hz4
    unfold execOp
    simp only [ho, Sem.run_bind, run_buildSlice w t e 1 _ B ie z hu hie hz (by rw [h4]; omega) (by rw [h4]; omega) hf, Result.andThen_ok]
    rfl
end
/-- one row more behind the own ones -/
theorem wpListIn_append_row1 {F : Fence} {nF : Nat} {ops : Array Oper} {rest : List Oper} {o : Oper} {a : Act} {w : World} {Q : Exit → Act → World → Prop} {E S : TypeId} {c : Nat} {X : Array Value} (hgd : o.guard = none) (s x : Operand)
    (ho : o.op = .call { callee := .builtin .append, args := #[s, x], argTypes := #[S, S] }) (hS : Try.prog.underlying S = some (.slice E))
    (hi : ∃ i z, Try.prog.info? E = some i ∧ i.zero = some z ∧ i.size = c ∧ i.bytes ≤ 1000 ∧ z.cells.size = c) (hc : 0 < c) (hX : X.size = c) (hXa : X.all (·.oneCell') = true)
    (base : Nat) (v : Value) (n : Nat) (xs : List Value) (hs : a.eval s = v) (hown : w.ownsRow base E c v n xs) (hx : a.eval x = .slice (some ⟨w.heap.size, 0, none⟩) 1 1) (hn : n ≤ 100000000) (hbase : base ≤ w.heap.size)
    (h : ∀ v' w', w'.ownsRow base E c v' (n + 1) (xs ++ X.toList) → (w.alloc (.cells X E)).grownBy w' v.ownBlock → (v'.ownBlock = v.ownBlock ∨ v'.ownBlock = some (w.heap.size + 1)) → wpListIn F nF Try.prog ops Q rest (a.put o.dst v') w') : wpListIn F nF Try.prog ops Q (o :: rest) a (w.alloc (.cells X E)) := by
  obtain ⟨i, z, h1, h2, h3, h4, h5⟩ := hi
  have hb := Nat.mul_le_mul (show n + 1 ≤ 100000001 by omega) h4
  refine wpListIn_append_own_at (w := w.alloc (.cells X E)) hgd s x _ ho base _ i z c i.bytes hS h1 h2 h3 rfl h5 hc v n xs hs (hown.alloc _) ⟨w.heap.size, 0, none⟩ 1 1 X.toList hx (by simp [hX]) (fun j u hj => ?_) (fun u hu => ?_) (by unfold maxLen; omega) (by omega) (by simp; omega) ?_
  · have e : (⟨w.heap.size, 0, none⟩ : Addr).add j = ⟨w.heap.size, j, none⟩ := by unfold Addr.add; split <;> simp_all
    rw [e, cellF (heap_alloc_new w (.cells X E))]
    simpa using hj
  · rw [Array.all_eq_true'] at hXa
    exact hXa u (by simpa using hu)
  · exact fun v' w' h6 h7 _ h8 => h v' w' h6 h7 (by simpa using h8)
/-- what the rounds have copied -/
def WasO (w3 : World) (K : Nat → Array Value) (p : Nat × Option Nat) (W : World) : Prop := (∃ v, Boxed W w3.heap.size 35 v ∧ W.ownsRow w3.heap.size 30 5 v p.1 (flat K p.1) ∧ v.ownBlock = p.2) ∧ Below w3.heap.size w3 W
theorem wasO_from {w3 : World} {K : Nat → Array Value} {B : Nat} (hB : w3.heap.size ≤ B) : OwnFrom B (WasO w3 K) := fun p W W' row ⟨h1, h2⟩ hg hr =>
  ⟨holdsRow_own w3.heap.size w3.heap.size _ _ 5 (fun p : Nat × Option Nat => p.1) (fun p => flat K p.1) (fun p v => v.ownBlock = p.2) p W W' row h1 hg (fun r e => (hr r e).2), h2.grown hg h2.size (fun r e => by have := (hr r e).1; omega)⟩
theorem wasO_next {w3 W W1 : World} {K : Nat → Array Value} {j : Nat} {r : Option Nat} {s : Nat} {v v' : Value} (hK : ∀ i, IsOrd (K i)) (hv : Boxed W w3.heap.size 35 v) (hrow : W.ownsRow w3.heap.size 30 5 v j (flat K j)) (hr : v.ownBlock = r) (hb : Below w3.heap.size w3 W) (hs : w3.heap.size < s)
    (ho : W1.ownsRow w3.heap.size 30 5 v' (j + 1) (flat K j ++ (K j).toList)) (hg : (W.alloc (.cells (K j) 30)).grownBy W1 v.ownBlock) (hat : v'.ownBlock = v.ownBlock ∨ v'.ownBlock = some (W.heap.size + 1)) :
    Boxed W1 w3.heap.size 35 v ∧ KeepsOthers W (W1.setCell ⟨w3.heap.size, 0, none⟩ v') ∧ ∃ r', KnR s r W (W1.setCell ⟨w3.heap.size, 0, none⟩ v') ∧ RowTo2 W (W1.setCell ⟨w3.heap.size, 0, none⟩ v') r r' ∧ WasO w3 K (j + 1, r') (W1.setCell ⟨w3.heap.size, 0, none⟩ v') := by
  obtain ⟨a1, a2, a3, a4, a5⟩ := hv.appended (by decide) hrow hb.size (Nat.le_refl _) ho hg
  refine ⟨a1, a4, v'.ownBlock, ?_, ?_, ⟨⟨v', a2, ?_, rfl⟩, hb.trans a5⟩⟩
  · subst hr
    exact (KnR.trans (knR_grown (s := s) (World.grownBy_alloc W _ v.ownBlock)) (knR_grown hg)).trans (Kn.toR (kn_set (g := w3.heap.size) hs (fun i hi => heap_setCell_other W1 _ i _ hi)))
  · rcases hat with e | e
    · exact .inl (e.trans hr)
    · exact .inr ⟨_, e, by omega, by have := (a3.lt _ e).2; omega⟩
  · have e : flat K (j + 1) = flat K j ++ (K j).toList := by
      have := flat_snoc K j (K j)
      rw [← this]
      exact flat_congr (j + 1) (fun i hi => by unfold snoc; split <;> simp_all)
    show World.ownsRow _ _ _ _ _ (j + 1) (flat K (j + 1))
    rw [e]
    exact a3
/-- what lies there behind the first range -/
structure FFo (w0 : World) (K : Nat → Array Value) (n D : Nat) (v : Value) (W : World) : Prop where
  bx : W.heap[w0.heap.size]? = some (.cells #[v] 35 (0, 0))
  ow : W.ownsRow w0.heap.size 30 5 v n (flat K n)
  be : Below w0.heap.size w0 W
  dl : w0.heap.size < D
  dD : W.heap[D]? = some (.deferred (some []))
theorem FFo.below {w0 W W' : World} {K : Nat → Array Value} {n D : Nat} {v : Value} (h : FFo w0 K n D v W) (hb : Below W.heap.size W W') : FFo w0 K n D v W' :=
  ⟨Ytmjfbilhalkegaa.kept hb h.bx, own_below hb h.ow, below_then h.be hb, h.dl, Ytmjfbilhalkegaa.kept hb h.dD⟩
theorem ffo_own {w0 : World} {K : Nat → Array Value} {n D : Nat} {v : Value} {B : Nat} {α : Type} (hB : w0.heap.size ≤ B) (hD : D < B) : OwnFrom B (fun (_ : α) W => FFo w0 K n D v W) := fun p W W' row h hg hr => by
  have hk : ∀ (i : Nat) c t fr, W.heap[i]? = some (Obj.cells c t fr) → W'.heap[i]? = some (Obj.cells c t fr) := fun i c t fr h1 => (hg.block i (Array.getElem?_eq_some_iff.1 h1).1 (fun e => by
    obtain ⟨_, o, ho, hc⟩ := hr i e.symm
    rw [h1] at ho
    cases ho
    exact absurd hc (by simp [Obj.isCells]))).trans h1
  exact ⟨hk _ _ _ _ h.bx, own_sameT h.ow (fun q A _ hq => hk _ _ _ _ hq), h.be.grown hg h.be.size (fun r e => by have := (hr r e).1; omega), h.dl, (hg.block D (Array.getElem?_eq_some_iff.1 h.dD).1 (fun e => by have := (hr D e.symm).1; omega)).trans h.dD⟩
theorem own_put {W : World} {D base n c : Nat} {e : TypeId} {v : Value} {xs : List Value} {o o' : Obj} (h : W.ownsRow base e c v n xs) (hD : W.heap[D]? = some o) (hc : o.isCells = false) : (W.putObj D o').ownsRow base e c v n xs :=
  own_sameT h (fun q A _ hq => put_other hD hq (fun e2 => by subst e2; rw [hD] at hq; cases hq; simp [Obj.isCells] at hc))
theorem info_ordA : ∃ i z, Try.prog.info? 30 = some i ∧ i.zero = some z ∧ i.size = 5 ∧ i.bytes ≤ 1000 ∧ z.cells.size = 5 := by
  obtain ⟨i, z, h1, h2, h3, h4, h5⟩ := info_ord
  exact ⟨i, z, h1, h2, h3, by omega, h5⟩
set_option maxRecDepth 100000 in
set_option maxHeartbeats 4000000 in
theorem orders_in {w : World} {g gb gs base : Nat} {lb ls : List Od} (h : BkG w g gb gs base lb ls) (hn : (lb ++ ls).length ≤ 1000) : Calls Try.prog 13 #[.pointer (some ⟨g, 0, none⟩)] w fun e w' =>
    (∃ v, e = .returned v ∧ w'.ownsRow w.heap.size 30 5 v (lb ++ ls).length (flat (fun i => oa (od (lb ++ ls) i)) (lb ++ ls).length)) ∧ Below w.heap.size w w' := by
  obtain ⟨K, hKe⟩ : ∃ K : Nat → Array Value, K = fun i => oa (od (lb ++ ls) i) := ⟨_, rfl⟩
  rw [← hKe]
  have hfe : ∀ (w1 : World) (g : Nat), (binOp .eql 64 (.func (.func 35) #[] #[.pointer (some ⟨g, 0, none⟩)]) Value.nilFunc).run Try.prog w1 = .ok (.bool false) w1 := fun _ _ => by kernel_rfl
  refine calls_marks Try.func13 rfl ?_
  simp only [Try.ntmps13, List.size_toArray, List.length_cons, List.length_nil, Nat.reduceAdd, Nat.reduceSub, Array.replicate_succ, Array.replicate_zero, List.push_toArray, List.append_toArray, List.nil_append, List.cons_append]
  go_wp2_with ((go_at_call 24; (with_reducible refine (ball_any _).mono ?_); rintro e w6 ⟨rfl, rfl⟩))
  obtain ⟨w5, hw5⟩ : ∃ w5, w5 = (((w.alloc (Obj.cells #[Value.slice none 0 0] 35)).alloc (Obj.cells #[Value.pointer (some ⟨g, 0, none⟩)] 23)).alloc (Obj.cells #[Value.pointer (some ⟨g, 0, none⟩)] 23)) := ⟨_, rfl⟩
  have hB5 : Below w.heap.size w w5 := by rw [hw5]; exact below_alloc (below_alloc (below_new _ _) _) _
  have h6 : w5.heap[w.heap.size]? = some (.cells #[Value.slice none 0 0] 35 (0, 0)) := by rw [hw5]; exact heap_up (heap_up (heap_alloc_new _ _))
  have hbox : w5.heap[w.heap.size + 1 + 1]? = some (.cells #[Value.pointer (some ⟨g, 0, none⟩)] 23 (0, 0)) := by
    rw [hw5]
    have := heap_alloc_new ((w.alloc (Obj.cells #[Value.slice none 0 0] 35)).alloc (Obj.cells #[Value.pointer (some ⟨g, 0, none⟩)] 23)) (Obj.cells #[Value.pointer (some ⟨g, 0, none⟩)] 23)
    simpa using this
  have hs5 : w5.heap.size = w.heap.size + 3 := by rw [hw5]; simp
  have hP5 := h.kept hB5
  rw [← hw5]
  clear hw5
  have hK : ∀ i, IsOrd (oa (od (lb ++ ls) i)) := fun i => oa_ord (od_ok (fun o ho => by
    rcases List.mem_append.1 ho with ho | ho
    · exact hP5.two.b.ok o ho
    · exact hP5.two.s.ok o ho) i)
  have HKO := Lib.hid hK
  have hKi : ∀ i, oa (od (lb ++ ls) i) = K i := fun i => by rw [hKe]
  have hSQ : SeqO Try.prog 35 #[.pointer (some ⟨w.heap.size + 1 + 1, 0, none⟩)] (fun j => #[.agg (K j)]) (lb ++ ls).length w5.heap.size w5 := by rw [hKe]; exact ball_seqO hbox hP5 (Nat.le_refl _)
  have hKO : ∀ i, IsOrd (K i) := fun i => by rw [← hKi]; exact HKO.out i
  clear hKe hK HKO
  refine wp_gen (fun u => #[.pointer (some ⟨g, 0, none⟩), u 1, u 2, .pointer (some ⟨w.heap.size, 0, none⟩), u 4, u 5, u 6, u 7, u 8, u 9, u 10, .func (.func 35) #[] #[.pointer (some ⟨w.heap.size + 1 + 1, 0, none⟩)], u 12, u 13, u 14, u 15, u 16, u 17, u 18, u 19, u 20]) (by rfl) (fun u => ?_)
  refine range_roundsO (gf := 35) (lb := #[.pointer (some ⟨w.heap.size + 1 + 1, 0, none⟩)]) (encs := fun j => #[.agg (K j)]) (k := (lb ++ ls).length) rfl (enters_of Try.func35 (by kernel_rfl) rfl) (fun _ => rfl) hSQ
    (WasO w K) (fun c j W => False) ?oI ?oX ?i0 (fun j W => W.alloc (.cells (K j) 30)) (fun j W => World.grownBy_alloc W _ none)
    (fun j V0 => { tmps := #[.pointer (some ⟨g, 0, none⟩), u 1, u 2, .pointer (some ⟨w.heap.size, 0, none⟩), .pointer (some ⟨V0.heap.size, 0, none⟩), u 5, u 6, u 7, u 8, u 9, u 10, .func (.func 35) #[] #[.pointer (some ⟨w.heap.size + 1 + 1, 0, none⟩)], .agg (K j), u 13, u 14, u 15, u 16, u 17, u 18, u 19, u 20], defers := [] }) ?assign ?body ?done ?stop
  case oI => exact wasO_from (by omega)
  case oX => exact fun _ _ _ _ _ h => h.elim
  case i0 => exact ⟨⟨_, h6, World.ownsRow_nil _ _ _ _, rfl⟩, hB5⟩
  case stop => exact fun _ _ _ _ _ _ h _ => h.elim
  case assign =>
    intro l i W K' hj hK
    have hO := hKO i
    have hsz := hO.size
    refine wpIn_lit (t := #[.pointer (some ⟨g, 0, none⟩), u 1, u 2, .pointer (some ⟨w.heap.size, 0, none⟩), u 4, u 5, u 6, u 7, u 8, u 9, u 10, .func (.func 35) #[] #[.pointer (some ⟨w.heap.size + 1 + 1, 0, none⟩)], .agg (K i), u 13, u 14, u 15, u 16, u 17, u 18, u 19, u 20]) (by simp) ?_
    gi_wp2_with (first | ((with_reducible refine at_allocIn 30 ?_); refine wpListIn_alloc_named rfl 30 rfl (#[.int .u64 0, .int .u32 0, .bool false, .int .i64 0, .int .i64 0]) (by kernel_rfl) ?_) | ((with_reducible refine at_storeIn 30 ?_); refine wpListIn_store_new rfl 30 _ _ rfl (K i) _ _ _ rfl (by simp) rfl (by rw [hsz]; kernel_rfl) (by rw [hsz]; rfl) (hO.all) ?_))
    exact hK
  case body =>
    rintro l i r V0 W hj ⟨⟨v, hbox9, hrow, hown⟩, hB⟩ hsW hup _
    have hO := hKO i
    have hv := hup _ _ _ _ (heap_alloc_new V0 (Obj.cells (K i) 30))
    have HN := Lib.hid (fun (v' : Value) (W1 : World) => wasO_next (s := w.heap.size + 3) (v' := v') (W1 := W1) hKO hbox9 hrow hown hB (by omega))
    have hcell := hbox9.cell
    have hrow0 := Lib.hid hrow
    have HBs := Lib.hid hB.size
    have hsz := hO.size
    have HALL := Lib.hid hO.all
    have hex : (K i).extract 0 (0 + 5) = K i := by rw [show 0 + 5 = (K i).size by rw [hsz]]; simp
    have hvs : 0 + 5 ≤ (K i).size := by omega
    have HSZ := Lib.hid hsz
    clear hbox9 hrow hown hB hO hsz hup
    refine wpIn_block ?_
    gi_wp2_with (first | ((with_reducible refine at_loadIn 30 ?_); refine wpListIn_load_part rfl 30 _ rfl (V0.heap.size) (0) rfl _ (K i) _ _ 5 (hv) Try.underlying30 rfl (by kernel_rfl) (hvs) (K i) (hex) ?_) | ((with_reducible refine at_slice1In 35 ?_); obtain ⟨ip, zp, ip1, ip2, ip3, ip4, ip5⟩ := info_ordA; refine wpListIn_slice1c rfl 35 30 _ rfl (K i) 5 rfl HSZ.out ip zp Try.underlying35 ip1 ip2 ip3 ip5 (by omega) (by omega) ?_; clear ip1 ip2 ip3 ip4 ip5) | ((with_reducible refine at_appendIn 35 ?_); refine wpListIn_append_row1 rfl _ _ rfl Try.underlying35 info_ordA (by omega) HSZ.out HALL.out w.heap.size v i _ rfl hrow0.out rfl (by omega) HBs.out ?_; intro v1 W1 ho1 hg1 hat1; obtain ⟨g9, c9, rfl⟩ := ownsRow_succ ho1; (have hN1 := HN.out _ W1 ho1 hg1 hat1); (have c9 := hN1.1.cell); (have f9 := hN1.1.frozen); (have HN1 := Lib.hid hN1.2); clear ho1 hg1 hat1 hN1))
    exact ⟨HN1.out.1.from _, HN1.out.2⟩
  case done =>
    rintro D r W hD ⟨⟨v, hbox9, hrow, hown⟩, hB⟩ hK
    have hPW := h.kept hB
    have hF : FFo w K (lb ++ ls).length D v W := ⟨hbox9, hrow, hB, by omega, hK⟩
    have hDW := (Array.getElem?_eq_some_iff.1 hK).1
    clear hbox9 hrow hown hB hK
    go_wp2_with ((go_at_call 24; (with_reducible refine (ball_any _).mono ?_); rintro e w6 ⟨rfl, rfl⟩))
    have hbn := below_new W (Obj.cells #[Value.pointer (some ⟨g, 0, none⟩)] 23)
    have hbox2 := heap_alloc_new W (Obj.cells #[Value.pointer (some ⟨g, 0, none⟩)] 23)
    have hF2 := hF.below hbn
    have hPX := hPW.kept hbn
    have hz2 : (W.alloc (Obj.cells #[Value.pointer (some ⟨g, 0, none⟩)] 23)).heap.size = W.heap.size + 1 := by simp
    obtain ⟨W2, hW2⟩ : ∃ W2, W2 = W.alloc (Obj.cells #[Value.pointer (some ⟨g, 0, none⟩)] 23) := ⟨_, rfl⟩
    rw [← hW2] at hbox2 hF2 hPX hz2 ⊢
    have hbl := hF.be.size
    clear hW2 hbn hF hPW
    refine range_roundsO (gf := 35) (lb := #[.pointer (some ⟨W.heap.size, 0, none⟩)]) (encs := fun j => #[.agg (oa (od (lb ++ ls) j))]) (k := (lb ++ ls).length) rfl (enters_of Try.func35 (by kernel_rfl) rfl) (fun _ => rfl) (ball_seqO hbox2 hPX (Nat.le_refl _))
      (fun _ W => FFo w K (lb ++ ls).length D v W) (fun c _ W => c = .exit 2 ∧ FFo w K (lb ++ ls).length D v W) ?oI2 ?oX2 ?i02 (fun j W => W) (fun j W => grownBy_of_below (Below.refl _ _))
      (fun j V0 => { tmps := #[.pointer (some ⟨g, 0, none⟩), u 1, u 2, .pointer (some ⟨w.heap.size, 0, none⟩), u 4, u 5, u 6, u 7, u 8, u 9, u 10, .func (.func 35) #[] #[.pointer (some ⟨w.heap.size + 1 + 1, 0, none⟩)], u 12, u 13, u 14, u 15, u 16, .pointer (some ⟨g, 0, none⟩), .func (.func 35) #[] #[.pointer (some ⟨W.heap.size, 0, none⟩)], .agg (oa (od (lb ++ ls) j)), u 20], defers := [] }) ?assign2 ?body2 ?done2 ?stop2
    case oI2 => exact ffo_own (by omega) (by omega)
    case oX2 =>
      rintro c j X X' row ⟨h1, h2⟩ hg hr
      exact ⟨h1, ffo_own (α := Unit) (B := W2.heap.size) (by omega) (by omega) () X X' row h2 hg hr⟩
    case i02 => exact hF2
    case assign2 =>
      intro l i X K' hj hK
      refine wpIn_lit (t := #[.pointer (some ⟨g, 0, none⟩), u 1, u 2, .pointer (some ⟨w.heap.size, 0, none⟩), u 4, u 5, u 6, u 7, u 8, u 9, u 10, .func (.func 35) #[] #[.pointer (some ⟨w.heap.size + 1 + 1, 0, none⟩)], u 12, u 13, u 14, u 15, u 16, .pointer (some ⟨g, 0, none⟩), .func (.func 35) #[] #[.pointer (some ⟨W.heap.size, 0, none⟩)], .agg (oa (od (lb ++ ls) i)), u 20]) (by simp) ?_
      exact wpIn_skip hK
    case body2 =>
      rintro l i r V0 X hj hF3 _ _ _
      have HF := Lib.hid hF3
      clear hF3
      gi_wp2
      exact ⟨KeepsFrom.refl _ _, rfl, HF.out⟩
    case done2 =>
      rintro D2 r2 X hD2 hF3 hK2
      have c3 := cellF hF3.bx
      go_wp2_with fail
      refine leaves_cons hK2 (leaves_cons (put_other hK2 hF3.dD (by omega)) (leaves_nil (v := v) ?_ ⟨⟨_, rfl, own_put (own_put hF3.ow hK2 rfl) (put_other hK2 hF3.dD (by omega)) rfl⟩, below_put (below_put hF3.be (by omega) hK2 (Nat.le_refl _)) (by have := hF3.dl; omega) (put_other hK2 hF3.dD (by omega)) (Nat.le_refl _)⟩))
      simp [results, Try.f13, go_sem]
    case stop2 =>
      rintro D2 c j X hD2 hj ⟨rfl, hF3⟩ hK2
      have c3 := cellF hF3.bx
      go_wp2_with fail
      refine leaves_cons hK2 (leaves_cons (put_other hK2 hF3.dD (by omega)) (leaves_nil (v := v) ?_ ⟨⟨_, rfl, own_put (own_put hF3.ow hK2 rfl) (put_other hK2 hF3.dD (by omega)) rfl⟩, below_put (below_put hF3.be (by omega) hK2 (Nat.le_refl _)) (by have := hF3.dl; omega) (put_other hK2 hF3.dD (by omega)) (Nat.le_refl _)⟩))
      simp [results, Try.f13, go_sem]
end Go.Proofs.Ytmjfbilhalkegaa
