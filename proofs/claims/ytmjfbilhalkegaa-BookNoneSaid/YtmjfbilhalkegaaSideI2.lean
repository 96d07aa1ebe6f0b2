/- All of a side that is one: the iterator's contract. Condition: the side is one. -/
import Derived.Test.YtmjfbilhalkegaaSideC
import Derived.Test.YtmjfbilhalkegaaSideNR
import Derived.Test.YtmjfbilhalkegaaRounds
import Derived.Test.YtmjfbilhalkegaaWpIn
import Derived.Shelf.Abstract
namespace Go.Proofs.Ytmjfbilhalkegaa
set_option linter.unusedVariables false
set_option linter.unusedSimpArgs false
open Go.RowKit Go.Shelf
theorem own_base {w : World} {base n c : Nat} {e : TypeId} {a : Option Addr} {rc : Nat} {xs : List Value} (h : w.ownsRow base e c (.slice a n rc) n xs) : ∀ g off, a = some ⟨g, off, none⟩ → base ≤ g := by
  obtain ⟨_, ⟨hv, _⟩ | ⟨g, cap, cur, hv, hb, _⟩⟩ := h
  · injection hv with hv; subst hv; intro g off e; cases e
  · injection hv with hv; subst hv; intro g' off e; cases e; exact hb
set_option maxRecDepth 100000 in
set_option maxHeartbeats 2000000 in
theorem sall1_in {gb g base k s : Nat} {buy : Bool} {L : Nat → Array Value} (W : World) (l : Nat) (J Jx : Nat → World → Prop) (hJ : AbidesFrom W.heap.size J) (hJx : AbidesFrom W.heap.size Jx)
    (hY : ∀ j W1, j < k → J j W1 → YieldAt Fence.wide 7 Try.prog l #[.agg (L j)] W1 fun e W' => (e = .returned (.bool true) ∧ J (j + 1) W' ∧ Kn s W1 W') ∨ (e = .returned (.bool false) ∧ Jx (j + 1) W'))
    (hb : W.heap[gb]? = some (.cells #[.pointer (some ⟨g, 0, none⟩)] 54 (0, 0))) (h : SideIs W g base k buy L) (hs : s ≤ W.heap.size) (h0 : J 0 W) :
    CallsIn Fence.wide 8 Try.prog 47 #[.func (.yield l) #[] #[], .pointer (some ⟨gb, 0, none⟩)] W fun e W' => (∃ v, e = .returned v) ∧ (J k W' ∨ ∃ j, j ≤ k ∧ Jx j W') := by
  have cr := sready_yes h
  obtain ⟨v, hg, hrow⟩ := h.row
  have hk := h.hk
  have HO := Lib.hid h.ord
  obtain ⟨ra, rc, rfl, hR, _, _, hz⟩ := own_rows (c := 5) (fun i => (h.ord i).size) hrow
  have cc := sclone_any ra rc k L W h.ord hR h.hk hz
  have cb := cellF hb
  have cg := cellF hg
  refine callsIn_of_wp Try.func47 rfl trivial ?_ rfl
  simp only [Try.ntmps47, List.size_toArray, List.length_cons, List.length_nil, Nat.reduceAdd, Nat.reduceSub, Array.replicate_succ, Array.replicate_zero, List.push_toArray, List.append_toArray, List.nil_append, List.cons_append]
  gi_wp2_with (first | (refine And.intro (show Fence.wide.fn 39 from trivial) ?_; refine CallsIn.mono (callsIn_wide.2 cr) ?_; rintro e w1 ⟨rfl, rfl⟩) | (refine And.intro (show Fence.wide.fn 46 from trivial) ?_; refine CallsIn.mono (callsIn_wide.2 cc) ?_; rintro e w2 ⟨v2, rfl, ho2, hb2⟩; obtain ⟨ra2, rc2, rfl, hR2, _⟩ := own_rows (c := 5) (fun i => (HO.out i).size) ho2; have hba := own_base ho2))
  have hJ2 : J 0 w2 := abides_below hJ h0 (grownBy_of_below hb2)
  have HR2 := Lib.hid hR2
  have HB := Lib.hid hba
  clear hR2 hba ho2 hR hrow h cr cc hz cb cg hg hb
  gi_loopw [14] (fun i wr => ∃ j : Nat, j ≤ k ∧ i = .int .i64 j ∧ J j wr ∧ Kn s w2 wr)
    (fun i _ => k - (intOf i).toNat)
  case atStart => exact ⟨0, Nat.zero_le _, rfl, hJ2, Kn.refl _ _⟩
  case round =>
    obtain ⟨j, hj, rfl, hJs, hnx⟩ := hrel
    by_cases hlt : j < k
    · obtain ⟨g2, off2, A2, fr2, rfl, hg2, hn2, hx2⟩ := HR2.out j hlt
      have hg3 := hnx g2 _ _ _ (Nat.le_trans hs (HB.out g2 off2 rfl)) hg2
      have hO := HO.out j
      have hsz := hO.size
      refine wpIn_seq (wpIn_wide.2 ?_)
      go_wp2
      refine wpIn_seq (wpIn_cond_true rfl (wpIn_skip ?_))
      refine wpIn_seq (wpIn_block (wpIn_seq (wpIn_wide.2 ?_)))
      go_wp2_with (first | ((with_reducible refine at_load 30 ?_); refine wpList_load_part rfl 30 _ rfl (g2) (off2 + j * 5) rfl _ (A2) _ _ 5 (hg3) Try.underlying30 rfl (by kernel_rfl) (hn2) (L j) (hx2) ?_) | ((with_reducible refine at_alloc 30 ?_); refine wpList_alloc_named rfl 30 rfl (#[.int .u64 0, .int .u32 0, .bool false, .int .i64 0, .int .i64 0]) (by kernel_rfl) ?_) | ((with_reducible refine at_store 30 ?_); refine wpList_store_new rfl 30 _ _ rfl (L j) _ _ _ rfl (by simp) rfl (by rw [hsz]; kernel_rfl) (by rw [hsz]; rfl) (hO.all) ?_))
      have hb3 := below_new wr (Obj.cells (L j) 30)
      have hJ3 := abides_below hJ hJs (grownBy_of_below hb3)
      obtain ⟨fn, tmps, assign, body, hy, hR⟩ := hY j _ hlt hJ3
      have hex : (L j).extract 0 (0 + 5) = L j := by rw [show 0 + 5 = (L j).size by rw [hsz]]; simp
      gi_wp2_with (((with_reducible refine at_loadIn 30 ?_); refine wpListIn_load_part rfl 30 _ rfl (wr.heap.size) (0) rfl _ (L j) _ _ 5 (heap_alloc_new _ _) Try.underlying30 rfl (by kernel_rfl) (by rw [hsz]; omega) (L j) hex ?_))
      refine hR.mono ?_
      rintro e W3 (⟨rfl, hJ4, hk3⟩ | ⟨rfl, hJx3⟩)
      · gi_wp2
        go_roundw
        case rel => exact ⟨j + 1, by omega, by simp, hJ4, hnx.trans ((kn_below hb3).trans hk3)⟩
        case measure => simp [intOf]; omega
      · gi_wp2
        refine bodyPost_ret (results_none rfl _ _ _) rfl ?_
        exact ⟨⟨_, rfl⟩, .inr ⟨j + 1, by omega, hJx3⟩⟩
    · obtain rfl : j = k := by omega
      gi_wp2
      go_end0
      exact ⟨⟨_, rfl⟩, .inl hJs⟩
theorem sall_seq {gb g base k s : Nat} {buy : Bool} {L : Nat → Array Value} {w : World} (hb : w.heap[gb]? = some (.cells #[.pointer (some ⟨g, 0, none⟩)] 54 (0, 0))) (h : SideIs w g base k buy L) (hs : s ≤ w.heap.size) :
    SeqK Try.prog 47 #[.pointer (some ⟨gb, 0, none⟩)] (fun j => #[.agg (L j)]) k s w := fun l J Jx W hW hJ hJx hY h0 =>
  sall1_in W l J Jx hJ hJx hY (Ytmjfbilhalkegaa.kept hW hb) (h.kept hW) (Nat.le_trans hs hW.size) h0
end Go.Proofs.Ytmjfbilhalkegaa
