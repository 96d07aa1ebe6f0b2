/- tearup's Parts of anything; the document's Same of holders; the known example. Condition: the numbers fit their kinds. -/
import Derived.Test.YticdcdahehodkaaTear2
import Derived.Test.YticdcdahehodkaaKl
import Derived.Test.YticdcdahehodkaaSl1
import Derived.Test.YticdcdahehodkaaSlN
namespace Go.Proofs.Yticdcdahehodkaa
set_option linter.unusedVariables false
set_option linter.unusedSimpArgs false
open Go.RowKit

theorem tparts_any (a : Option Addr) (n cap : Nat) (A Q : Nat → Int) (q : Int) (w : World) (hb : ∀ i, (0 ≤ A i ∧ A i ≤ 4294967295) ∧ F64 (Q i)) (hA : Holds w a n A Q) (hq : F64 q) : TearC a n cap A Q q w := by
  by_cases h1 : 64 < n ∨ q = 0 ∨ inB q (-10000000) 10000000 = false ∨ hmay A Q n = false
  · exact tparts_bad a n cap A Q q w hb hA hq h1
  · have h2 : inB q (-10000000) 10000000 = true := by
      cases h : inB q (-10000000) 10000000
      · exact absurd (.inr (.inr (.inl h))) h1
      · rfl
    have h3 : hmay A Q n = true := by
      cases h : hmay A Q n
      · exact absurd (.inr (.inr (.inr h))) h1
      · rfl
    exact tparts_ok a n cap A Q q w hb hA (by
      apply Classical.byContradiction; intro h; exact h1 (.inl (by omega))) (fun h => h1 (.inr (.inl h))) (inB_iff.1 h2) h3

theorem neq_hold (x y : Int) (hx : 0 ≤ x ∧ x ≤ 4294967295) (hy : F64 y) (w : World) : (binOp .neq 32 (.agg (hA x y)) (.agg (hA x y))).run Try.prog w = .ok (.bool false) w := by
  have hc : Try.prog.cellsOf 32 = 2 := by kernel_rfl
  have c2 : Try.prog.cellsOf 2 = 1 := by kernel_rfl
  have c3 : Try.prog.cellsOf 30 = 1 := by kernel_rfl
  refine neq_keys Try.underlying32 (by rw [hc]; rfl) (by kernel_rfl) (kl_fields Try.underlying32 (by rw [hc]; rfl) (by kernel_rfl) fun f hf => ?_) w
  simp only [List.mem_cons, List.not_mem_nil, or_false] at hf
  rcases hf with rfl | rfl
  · exact kl_int Try.underlying30 c3 (IsN_of (n := x) rfl hx)
  · exact kl_int Try.underlying2 c2 (IsN_of (n := y) rfl hy)

set_option maxHeartbeats 2000000 in
/-- two rows of holders alike -/
theorem same14_any (a b : Option Addr) (n ca cb : Nat) (A Q : Nat → Int) (w : World) (hb : ∀ i, i < n → (0 ≤ A i ∧ A i ≤ 4294967295) ∧ F64 (Q i)) (hA : Holds w a n A Q) (hB : Holds w b n A Q) (hn : n ≤ 100000) :
    Calls Try.prog 14 #[.slice a n ca, .slice b n cb] w fun e w' => e = .returned (.bool true) ∧ Below w.heap.size w w' := by
  have HA := Lib.hid hA
  have HB := Lib.hid hB
  have HD := Lib.hid hb
  clear hA hB hb
  go_enter Try.func14, Try.ntmps14
  go_wp2
  go_loopg [5] n (fun gh i wr => ∃ k : Nat, k ≤ n ∧ gh = n - k ∧ i = .int .i64 k ∧ Below w.heap.size w wr)
  case atStart => exact ⟨0, by omega, by omega, rfl, Below.refl _ _⟩
  case round =>
    obtain ⟨k, hk, rfl, rfl, hb⟩ := hrel
    by_cases hlt : k < n
    · obtain ⟨g, off, B, t, fr, rfl, hg, hs, he, _, _⟩ := (HA.out.kept hb).at hlt
      obtain ⟨g2, off2, B2, t2, fr2, rfl, hg2, hs2, he2, _, _⟩ := (HB.out.kept hb).at hlt
      have hki : (k : Int) < n := by omega
      have hne := neq_hold (A k) (Q k) (HD.out k hlt).1 (HD.out k hlt).2
      generalize hA (A k) (Q k) = X at *
      go_wp2
      refine wp_region_below (by kernel_rfl) (by kernel_rfl) ?_
      repeat (first | ((with_reducible apply q_skip); (case hw => rfl); (try simp only [Act.put, List.setIfInBounds_toArray, List.set_cons_zero, List.set_cons_succ])) | ((with_reducible refine at_qload 32 ?_); refine q_load_fr (by rfl) 32 _ rfl (g) (off + k * 2) rfl _ (B) _ _ 2 (hg) Try.underlying32 rfl (by kernel_rfl) (hs) (X) (he) ?_; try simp only [Act.put, List.setIfInBounds_toArray, List.set_cons_zero, List.set_cons_succ]) | ((with_reducible refine at_qload 32 ?_); refine q_load_fr (by rfl) 32 _ rfl (g2) (off2 + k * 2) rfl _ (B2) _ _ 2 (hg2) Try.underlying32 rfl (by kernel_rfl) (hs2) (X) (he2) ?_; try simp only [Act.put, List.setIfInBounds_toArray, List.set_cons_zero, List.set_cons_succ]) | ((with_reducible apply q_val); (case hw => rfl); (case hv => intro wq hbq; go_simp; try rfl); (try simp only [Act.put, List.setIfInBounds_toArray, List.set_cons_zero, List.set_cons_succ])))
      refine q_nil ?_
      intro w4 hb4
      go_wp2
      go_roundg (n - (k + 1))
      case measure => omega
      case rel => exact ⟨k + 1, by omega, rfl, by go_num, below_then hb hb4⟩
    · obtain rfl : k = n := by omega
      go_wp2
      go_ret
      exact ⟨rfl, hb⟩

/-- the known example's holders -/
def kA : Nat → Int := fun i => if i = 0 then 1 else if i = 1 then 2 else 3
def kQ : Nat → Int := fun i => if i = 0 then -10 else if i = 1 then -20 else 5
theorem k_tE : tE 10 3 kA kQ = 0 := by decide
theorem k_tm : tm (tP 10 3 kQ) 3 = 2 := by decide
theorem k_tR0 : tR kA (tP 10 3 kQ) 3 0 = hA 1 3 := by kernel_rfl
theorem k_tR1 : tR kA (tP 10 3 kQ) 3 1 = hA 2 7 := by kernel_rfl
theorem rowsT_holds {w : World} {t : TypeId} {a : Option Addr} {n : Nat} {L : Nat → Array Value} {A Q : Nat → Int} (h : RowsT w t 2 a n L) (e : ∀ i, i < n → L i = hA (A i) (Q i)) : Holds w a n A Q := fun i hi => by
  obtain ⟨g, off, B, fr, h1, h2, h3, h4⟩ := h i hi
  exact ⟨g, off, B, t, fr, h1, h2, h3, by rw [h4, e i hi]⟩
/-- rows that a block holds, one behind the other -/
theorem block_holds {w : World} {g n : Nat} {B : Array Value} {t : TypeId} {fr : Nat × Nat} {A Q : Nat → Int} (hg : w.heap[g]? = some (.cells B t fr)) (hs : B.size = n * 2) (h : ∀ i, i < n → B[i * 2]? = some (.int .u32 (A i)) ∧ B[i * 2 + 1]? = some (.int .i64 (Q i))) : Holds w (some ⟨g, 0, none⟩) n A Q := fun i hi => by
  refine ⟨g, 0, B, t, fr, rfl, hg, by omega, ?_⟩
  apply Array.ext_getElem?
  intro j
  rw [Array.getElem?_extract]
  by_cases h0 : j = 0
  · subst h0; rw [if_pos (by omega), Nat.zero_add, Nat.add_zero, (h i hi).1]; rfl
  · by_cases h1 : j = 1
    · subst h1; rw [if_pos (by omega), Nat.zero_add, (h i hi).2]; rfl
    · rw [if_neg (by omega), Array.getElem?_eq_none_iff.2 (by rw [hA_size]; omega)]
def rA : Nat → Int := fun i => if i = 0 then 1 else 2
def rQ : Nat → Int := fun i => if i = 0 then 3 else 7
set_option maxRecDepth 100000 in
set_option maxHeartbeats 2000000 in
theorem known14 (w : World) : Calls Try.prog 11 #[] w fun e w' => e = .returned (.bool true) ∧ Below w.heap.size w w' := by
  have h1 : Holds (w.alloc (.cells #[.int .u32 1, .int .i64 (-10), .int .u32 2, .int .i64 (-20), .int .u32 3, .int .i64 5] 32)) (some ⟨w.heap.size, 0, none⟩) 3 kA kQ :=
    block_holds (heap_alloc_new _ _) rfl (fun i hi => by
      have : i = 0 ∨ i = 1 ∨ i = 2 := by omega
      rcases this with rfl | rfl | rfl <;> exact ⟨rfl, rfl⟩)
  have c1 := tparts_any (some ⟨w.heap.size, 0, none⟩) 3 3 kA kQ 10 _ (fun i => by unfold kA kQ F64; split <;> (try split) <;> omega) h1 (by unfold F64; omega)
  unfold TearC at c1
  rw [k_tE] at c1
  have HT := Lib.hid (fun (s : Nat) (w' : World) (v : Value) (h : TearV 10 3 kA kQ s w' v) => show ∃ a c, v = .slice a 2 c ∧ Holds w' a 2 rA rQ from by
    have h2 := h.1 k_tE
    rw [k_tm] at h2
    obtain ⟨a, c, e, h3, _⟩ := own_rows (fun i => tR_size _ _ _ i) h2
    refine ⟨a, c, e, rowsT_holds h3 (fun i hi => ?_)⟩
    have : i = 0 ∨ i = 1 := by omega
    rcases this with rfl | rfl
    · exact k_tR0
    · exact k_tR1)
  have HS := Lib.hid (fun (wx : World) (a : Option Addr) (c : Nat) (h : Holds wx a 2 rA rQ) => same14_any a (some ⟨wx.heap.size, 0, none⟩) 2 c 2 rA rQ (wx.alloc (.cells #[.int .u32 1, .int .i64 3, .int .u32 2, .int .i64 7] 32)) (fun i _ => by unfold rA rQ F64; split <;> omega) (h.kept (below_new _ _)) (block_holds (heap_alloc_new _ _) rfl (fun i hi => by
      have : i = 0 ∨ i = 1 := by omega
      rcases this with rfl | rfl <;> exact ⟨rfl, rfl⟩)) (by omega))
  clear h1
  go_enter Try.func11, Try.ntmps11
  go_wp2_with (first | ((with_reducible refine at_buildSlice 22 ?_); refine wpList_slice_named rfl 22 32 3 _ rfl #[.int .u32 1, .int .i64 (-10), .int .u32 2, .int .i64 (-20), .int .u32 3, .int .i64 5] Try.underlying22 (by kernel_rfl) ?_) | (go_at_call 12; (with_reducible refine (c1).mono ?_); rintro e w1 ⟨⟨v, rfl, hv⟩, hb1⟩; obtain ⟨a2, c2, rfl, h2⟩ := HT.out _ _ _ hv; have cs := HS.out _ _ c2 h2; clear hv h2) | ((with_reducible refine at_buildSlice 22 ?_); refine wpList_slice_named rfl 22 32 2 _ rfl #[.int .u32 1, .int .i64 3, .int .u32 2, .int .i64 7] Try.underlying22 (by kernel_rfl) ?_) | (go_at_call 14; (with_reducible refine (cs).mono ?_); rintro e w2 ⟨rfl, hb2⟩))
  go_ret
  exact ⟨rfl, below_then (below_then (below_new _ _) hb1) (below_then (below_new _ _) hb2)⟩
end Go.Proofs.Yticdcdahehodkaa
