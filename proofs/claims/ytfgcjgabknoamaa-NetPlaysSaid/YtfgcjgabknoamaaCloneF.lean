/- A copy of bytes, or of a mail, lies in a block of its own. Condition: the bytes can be read. -/
import Derived.Test.YtfgcjgabknoamaaClone
namespace Go.Proofs.Ytfgcjgabknoamaa
set_option linter.unusedVariables false
set_option linter.unusedSimpArgs false
open Go.RowKit

/-- whatever lies there lies from b on -/
def Fr (b : Nat) (v : Value) : Prop := ∀ q, v.ownBlock = some q → b ≤ q
theorem Fr.mono {b b' : Nat} {v : Value} (h : Fr b v) (hb : b' ≤ b) : Fr b' v := fun q e => Nat.le_trans hb (h q e)
set_option maxHeartbeats 1000000 in
theorem clone_fr (a : Option Addr) (n c : Nat) (X : Nat → Int) (w : World) (hX : Byt w a n X) (hn : n ≤ 100000000) (hz : a = none → n = 0 ∧ c = 0) :
    Calls Try.prog 34 #[.slice a n c] w fun e w' => ∃ v', e = .returned v' ∧ BytT w' v' n X ∧ Fr w.heap.size v' ∧ Below w.heap.size w w' := by
  have q22 : ∀ (w : World) (a : Option Addr) (n c n' c' : Nat), (binOp .eql 22 (.slice a n c) (.slice none n' c')).run Try.prog w = .ok (.bool a.isNone) w := fun w a n c n' c' => Lib.run_eql_slice_nil w _ _ a n c n' c' Try.underlying22
  cases a with
  | none =>
    obtain ⟨rfl, rfl⟩ := hz rfl
    go_enter Try.func34, Try.ntmps34
    go_wp2
    go_ret
    exact ⟨_, rfl, ⟨none, 0, rfl, by omega, by omega, fun _ => ⟨rfl, rfl⟩, .inl rfl⟩, (fun q e => by cases e), Below.refl _ _⟩
  | some ad =>
    obtain ⟨i, z, h1, h2, h3, h4, h5⟩ := info_u8
    have hown := (World.ownsRow_made w #[] 0 (e := 5) (size := 1) (base := w.heap.size) (Nat.le_refl _) (Nat.zero_le _) rfl)
    have hcell : ∀ j u, (bl X n)[j]? = some u → (w.alloc (.cells #[] 5)).cell? (ad.add j) = some u := fun j u hj => by
      have hjn : j < n := by rw [← bl_len X n]; exact (List.getElem?_eq_some_iff.1 hj).1
      obtain ⟨g, off, A, t, fr, ha, hg, hA⟩ := hX j hjn
      injection ha with ha
      subst ha
      have hadd : (⟨g, off, none⟩ : Addr).add j = ⟨g, off + j, none⟩ := by unfold Addr.add; split <;> simp_all
      rw [hadd, cellF (heap_up hg), hA, ← hj, bl_at X hjn]
    go_enter Try.func34, Try.ntmps34
    go_wp2_with ((with_reducible refine at_append 22 ?_); refine wpList_append_own _ rfl _ _ _ rfl w.heap.size 5 i z 1 1 Try.underlying22 h1 h2 h3 h4 h5 (by omega) _ 0 [] rfl hown ad n c (bl X n) rfl (by rw [bl_len]; omega) hcell (bl_one X n) (by unfold maxLen; omega) (by omega) (by simp) ?_; intro v' w' ho hg hnil)
    go_ret
    rw [Nat.zero_add, List.nil_append] at ho
    exact ⟨_, rfl, own_bytes ho, (fun q e => (ho.lt q e).1), (below_new _ _).grown hg (by simp) (fun k hk => by have := (hown.lt k hk).1; omega)⟩

set_option maxRecDepth 100000 in
set_option maxHeartbeats 1000000 in
theorem own_fr (f t : Int) (a : Option Addr) (n c : Nat) (X : Nat → Int) (w : World) (hX : Byt w a n X) (hn : n ≤ 100000000) (hz : a = none → n = 0 ∧ c = 0) :
    Calls Try.prog 26 #[.agg (m3 f t (.slice a n c))] w fun e w' => ∃ v', e = .returned (.agg (m3 f t v')) ∧ BytT w' v' n X ∧ Fr w.heap.size v' ∧ Below w.heap.size w w' := by
  have hX2 := (hX.kept (below_new w (Obj.cells (m3 f t (.slice a n c)) 24))).kept (below_new _ (Obj.cells (m3 0 0 (.slice none 0 0)) 24))
  have cc := clone_fr a n c X _ hX2 hn hz
  have H3 := Lib.hid (show ∀ f t v, (m3 f t v).size = 3 from fun _ _ _ => rfl)
  have h2 : (m3 f t (.slice a n c))[2]? = some (.slice a n c) := rfl
  have hset : ∀ v, (m3 f t (.slice a n c)).setIfInBounds 2 v = m3 f t v := fun v => rfl
  have HSET := Lib.hid hset
  clear hset
  have hg1 := heap_up (o := Obj.cells (m3 0 0 (.slice none 0 0)) 24) (heap_alloc_new w (Obj.cells (m3 f t (.slice a n c)) 24))
  have hg2 := heap_alloc2_new w (Obj.cells (m3 f t (.slice a n c)) 24) (Obj.cells (m3 0 0 (.slice none 0 0)) 24)
  have hb2 := below_alloc (below_new w (Obj.cells (m3 f t (.slice a n c)) 24)) (Obj.cells (m3 0 0 (.slice none 0 0)) 24)
  generalize hM : m3 f t (.slice a n c) = M at *
  generalize hM0 : m3 0 0 (.slice none 0 0) = M0 at *
  have HM0 := Lib.hid hM0
  have HMs := Lib.hid (show M.size = 3 by rw [← hM]; rfl)
  have HM0s := Lib.hid (show M0.size = 3 by rw [← hM0]; rfl)
  clear hM hM0
  obtain ⟨cg, fg, _⟩ := cells_of hg1
  go_enter Try.func26, Try.ntmps26
  go_wp2_with (first | ((with_reducible refine at_alloc 24 ?_); refine wpList_alloc_named rfl 24 rfl M0 (by rw [← HM0.out]; kernel_rfl) ?_) | (go_at_call 34; (with_reducible refine cc.mono ?_); rintro e w1 ⟨v', rfl, hv1, hf1, hb1⟩; obtain ⟨a', c', rfl, hv2⟩ := id hv1; have hg11 := Ytfgcjgabknoamaa.kept hb1 hg1; have hg21 := Ytfgcjgabknoamaa.kept hb1 hg2; obtain ⟨cg1, fg1, _⟩ := cells_of hg11; have hg12 := heap_set (i := 2) (v := .slice a' n c') hg11; have hg22 := heap_set_other (g := w.heap.size) (i := 2) (v := .slice a' n c') hg21 (by omega); rw [HSET.out] at hg12; have HS3 := Lib.hid (extract_all (H3.out f t (.slice a' n c')))) | ((with_reducible refine at_load 24 ?_); refine wpList_load_part rfl 24 _ rfl (w.heap.size) (0) rfl _ (m3 f t (.slice a' n c')) _ _ 3 (hg12) Try.underlying24 rfl (by kernel_rfl) (by rw [H3.out]; omega) (m3 f t (.slice a' n c')) (HS3.out) ?_) | ((with_reducible refine at_store 24 ?_); refine wpList_store_over rfl 24 _ _ rfl (w.heap.size + 1) (m3 f t (.slice a' n c')) rfl rfl _ _ (hg22) (by rw [H3.out]; kernel_rfl) (by rw [H3.out]; exact HM0s.out) (m3_all) ?_; intro w3 hg3 hs3 ho3 hb3))
  have hB1 := below_set (g := w.heap.size) (i := 2) (v := .slice a' n c') (below_then hb2 hb1) (Nat.le_refl _)
  have hv3 : BytT w3 (.slice a' n c') n X := by
    obtain ⟨a2, c2, q1, q2, q3, q4, q5⟩ := hv1
    refine ⟨a2, c2, q1, q2, q3, q4, ?_⟩
    rcases q5 with q5 | ⟨gb, A, fr, q5, q6, q7⟩
    · exact .inl q5
    · refine .inr ⟨gb, A, fr, q5, ?_, q7⟩
      have e1 : gb ≠ w.heap.size := fun e => by subst e; rw [hg11] at q6; injection q6 with q6; injection q6 with _ q6; exact absurd q6 (by decide)
      have e2 : gb ≠ w.heap.size + 1 := fun e => by subst e; rw [hg21] at q6; injection q6 with q6; injection q6 with _ q6; exact absurd q6 (by decide)
      rw [ho3 _ e2]
      exact heap_set_other q6 e1
  exact bodyPost_ret (results_cell_any rfl _ _ _ _ _ _ rfl hg3 Try.underlying24 rfl (by rw [H3.out]; kernel_rfl)) rfl ⟨_, rfl, hv3, hf1.mono (by simp; omega), hB1.trans (hb3 _ (by omega))⟩
end Go.Proofs.Ytfgcjgabknoamaa
