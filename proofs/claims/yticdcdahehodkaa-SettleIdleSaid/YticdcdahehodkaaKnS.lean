/- The document's Same of those settled; the known example of layer 13. No condition. -/
import Derived.Test.YticdcdahehodkaaSet3
import Derived.Test.YticdcdahehodkaaKl
import Derived.Test.YticdcdahehodkaaSlN
namespace Go.Proofs.Yticdcdahehodkaa
set_option linter.unusedVariables false
set_option linter.unusedSimpArgs false
open Go.RowKit

theorem kl_bool {d o : Nat} {t : TypeId} {cs : List Value} {b : Bool} (hu : Try.prog.underlying t = some .bool) (hc : Try.prog.cellsOf t = 1) (h : cs[o]? = some (.bool b)) :
    ∃ l, Try.prog.keyLits (d + 1) t ((cs.drop o).take (Try.prog.cellsOf t)) = some l := by
  have hlt : o < cs.length := (List.getElem?_eq_some_iff.1 h).1
  have e : (cs.drop o).take 1 = [.bool b] := by
    rw [List.drop_eq_getElem_cons hlt, List.take_succ_cons, List.take_zero, (List.getElem?_eq_some_iff.1 h).2]
  rw [hc, e]
  unfold Program.keyLits
  rw [hu]
  exact ⟨_, rfl⟩
theorem neq_set (x c : Int) (d : Bool) (u : Int) (hx : 0 ≤ x ∧ x ≤ 4294967295) (hc : F64 c) (hu : F64 u) (w : World) : (binOp .neq 43 (.agg (sA x c d u)) (.agg (sA x c d u))).run Try.prog w = .ok (.bool false) w := by
  have hcs : Try.prog.cellsOf 43 = 4 := by kernel_rfl
  have c2 : Try.prog.cellsOf 2 = 1 := by kernel_rfl
  have c3 : Try.prog.cellsOf 30 = 1 := by kernel_rfl
  have c4 : Try.prog.cellsOf 4 = 1 := by kernel_rfl
  refine neq_keys Try.underlying43 (by rw [hcs]; rfl) (by kernel_rfl) (kl_fields Try.underlying43 (by rw [hcs]; rfl) (by kernel_rfl) fun f hf => ?_) w
  simp only [List.mem_cons, List.not_mem_nil, or_false] at hf
  rcases hf with rfl | rfl | rfl | rfl
  · exact kl_int Try.underlying30 c3 (IsN_of (n := x) rfl hx)
  · exact kl_int Try.underlying2 c2 (IsN_of (n := c) rfl hc)
  · exact kl_bool (b := d) Try.underlying4 c4 rfl
  · exact kl_int Try.underlying2 c2 (IsN_of (n := u) rfl hu)
theorem OW.ext {w : World} {g n i : Nat} {a c : Nat → Int} {d : Nat → Bool} {u : Nat → Int} (h : OW w g n a c d u) (hi : i < n) : ∃ G, w.heap[g]? = some (.cells G 43 (0, 0)) ∧ i * 4 + 4 ≤ G.size ∧ G.extract (i * 4) (i * 4 + 4) = sA (a i) (c i) (d i) (u i) := by
  obtain ⟨G, h1, h2, h3⟩ := h.row
  obtain ⟨e0, e1, e2, e3⟩ := h3 i hi
  refine ⟨G, h1, by omega, ?_⟩
  apply Array.ext_getElem?
  intro j
  rw [Array.getElem?_extract]
  by_cases hj : j < 4
  · rw [if_pos (by omega)]
    have : j = 0 ∨ j = 1 ∨ j = 2 ∨ j = 3 := by omega
    rcases this with rfl | rfl | rfl | rfl
    · rw [Nat.add_zero, e0]; rfl
    · rw [e1]; rfl
    · rw [e2]; rfl
    · rw [e3]; rfl
  · rw [if_neg (by omega), Array.getElem?_eq_none_iff.2 (by rw [sA_size]; omega)]

set_option maxRecDepth 100000 in
set_option maxHeartbeats 2000000 in
/-- two rows of those settled alike -/
theorem same13_any (g1 g2 n ca cb : Nat) (a c : Nat → Int) (d : Nat → Bool) (u : Nat → Int) (w : World) (hb : ∀ i, i < n → (0 ≤ a i ∧ a i ≤ 4294967295) ∧ F64 (c i) ∧ F64 (u i)) (hA : OW w g1 n a c d u) (hB : OW w g2 n a c d u) (hn : n ≤ 100000) :
    Calls Try.prog 18 #[.slice (some ⟨g1, 0, none⟩) n ca, .slice (some ⟨g2, 0, none⟩) n cb] w fun e w' => e = .returned (.bool true) ∧ Below w.heap.size w w' := by
  have HA := Lib.hid hA
  have HB := Lib.hid hB
  have HD := Lib.hid hb
  clear hA hB hb
  go_enter Try.func18, Try.ntmps18
  go_wp2
  go_loopg [5] n (fun gh i wr => ∃ k : Nat, k ≤ n ∧ gh = n - k ∧ i = .int .i64 k ∧ Below w.heap.size w wr)
  case atStart => exact ⟨0, by omega, by omega, rfl, Below.refl _ _⟩
  case round =>
    obtain ⟨k, hk, rfl, rfl, hb⟩ := hrel
    by_cases hlt : k < n
    · obtain ⟨B, hg, hs, he⟩ := (HA.out.kept hb).ext hlt
      obtain ⟨B2, hg2, hs2, he2⟩ := (HB.out.kept hb).ext hlt
      have hki : (k : Int) < n := by omega
      have hne := neq_set (a k) (c k) (d k) (u k) (HD.out k hlt).1 (HD.out k hlt).2.1 (HD.out k hlt).2.2
      generalize sA (a k) (c k) (d k) (u k) = X at *
      go_wp2
      refine wp_region_below (by kernel_rfl) (by kernel_rfl) ?_
      repeat (first | ((with_reducible apply q_skip); (case hw => rfl); (try simp only [Act.put, List.setIfInBounds_toArray, List.set_cons_zero, List.set_cons_succ])) | ((with_reducible refine at_qload 43 ?_); refine q_load_part (by rfl) 43 _ rfl (g1) (k * 4) rfl _ (B) _ 4 (hg) Try.underlying43 rfl (by kernel_rfl) (hs) (X) (he) ?_; try simp only [Act.put, List.setIfInBounds_toArray, List.set_cons_zero, List.set_cons_succ]) | ((with_reducible refine at_qload 43 ?_); refine q_load_part (by rfl) 43 _ rfl (g2) (k * 4) rfl _ (B2) _ 4 (hg2) Try.underlying43 rfl (by kernel_rfl) (hs2) (X) (he2) ?_; try simp only [Act.put, List.setIfInBounds_toArray, List.set_cons_zero, List.set_cons_succ]) | ((with_reducible apply q_val); (case hw => rfl); (case hv => intro wq hbq; go_simp; try rfl); (try simp only [Act.put, List.setIfInBounds_toArray, List.set_cons_zero, List.set_cons_succ])))
      refine q_nil ?_
      intro w4 hb4
      go_wp2
      go_roundg (n - (k + 1))
      case measure => omega
      case rel => exact ⟨k + 1, by omega, rfl, by go_num, below_then hb hb4⟩
    · obtain rfl : k = n := by omega
      go_wp2
      go_ret
      exact ⟨rfl, hb⟩

def sAk : Nat → Int := fun i => if i = 0 then 1 else if i = 1 then 2 else 3
def sCk : Nat → Int := fun i => if i = 0 then 10 else 0
def sVk : Nat → Int := fun i => if i = 0 then -30 else if i = 1 then 20 else 10
theorem s_E : sE 5 3 sAk sCk sVk = 0 := by decide
theorem s_F : sF 5 3 sAk sCk sVk = 0 := by decide
theorem s_cut : cutN 5 3 sCk sVk 0 = 0 ∧ cutN 5 3 sCk sVk 1 = 10 ∧ cutN 5 3 sCk sVk 2 = 5 := by decide
def rCk : Nat → Int := fun i => if i = 0 then 0 else if i = 1 then 10 else 5
def rDk : Nat → Bool := fun i => decide (i = 0)
def rUk : Nat → Int := fun i => if i = 0 then 0 else if i = 1 then 10 else 5
theorem block_dues {w : World} {g n : Nat} {B : Array Value} {t : TypeId} {fr : Nat × Nat} {A C V : Nat → Int} (hg : w.heap[g]? = some (.cells B t fr)) (hs : B.size = n * 3) (h : ∀ i, i < n → B[i * 3]? = some (.int .u32 (A i)) ∧ B[i * 3 + 1]? = some (.int .i64 (C i)) ∧ B[i * 3 + 2]? = some (.int .i64 (V i))) : Dues w (some ⟨g, 0, none⟩) n A C V := fun i hi => by
  refine ⟨g, 0, B, t, fr, rfl, hg, by omega, ?_⟩
  apply Array.ext_getElem?
  intro j
  rw [Array.getElem?_extract]
  by_cases hj : j < 3
  · rw [if_pos (by omega)]
    have : j = 0 ∨ j = 1 ∨ j = 2 := by omega
    rcases this with rfl | rfl | rfl
    · rw [Nat.zero_add, Nat.add_zero, (h i hi).1]; rfl
    · rw [Nat.zero_add, (h i hi).2.1]; rfl
    · rw [Nat.zero_add, (h i hi).2.2]; rfl
  · rw [if_neg (by omega), Array.getElem?_eq_none_iff.2 (by rw [dA_size]; omega)]
set_option maxRecDepth 100000 in
set_option maxHeartbeats 2000000 in
theorem known13 (w : World) : Calls Try.prog 15 #[] w fun e w' => e = .returned (.bool true) ∧ Below w.heap.size w w' := by
  have h1 : Dues (w.alloc (.cells #[.int .u32 1, .int .i64 10, .int .i64 (-30), .int .u32 2, .int .i64 0, .int .i64 20, .int .u32 3, .int .i64 0, .int .i64 10] 39)) (some ⟨w.heap.size, 0, none⟩) 3 sAk sCk sVk :=
    block_dues (heap_alloc_new _ _) rfl (fun i hi => by
      have : i = 0 ∨ i = 1 ∨ i = 2 := by omega
      rcases this with rfl | rfl | rfl <;> exact ⟨rfl, rfl, rfl⟩)
  have c1 := settle_any 5 (some ⟨w.heap.size, 0, none⟩) 3 3 sAk sCk sVk _ (fun i => by unfold sAk sCk sVk F64; refine ⟨?_, ?_, ?_⟩ <;> (split <;> (try split) <;> omega)) h1
  unfold SetC at c1
  rw [s_E, s_F] at c1
  have HT := Lib.hid (fun (s : Nat) (w' : World) (v : Value) (h : SetV 5 3 sAk sCk sVk s w' v) => show ∃ g, v = .slice (some ⟨g, 0, none⟩) 3 3 ∧ OW w' g 3 sAk rCk rDk rUk from by
    obtain ⟨g, e, _, h2⟩ := h.1 s_E
    refine ⟨g, e, h2.congr (fun i _ => rfl) (fun i hi => ?_) (fun i hi => ?_) (fun i hi => ?_)⟩
    all_goals
      have : i = 0 ∨ i = 1 ∨ i = 2 := by omega
      rcases this with rfl | rfl | rfl
    · rw [s_cut.1]; rfl
    · rw [s_cut.2.1]; rfl
    · rw [s_cut.2.2]; rfl
    · rfl
    · rfl
    · rfl
    · rw [s_cut.1]; rfl
    · rw [s_cut.2.1]; rfl
    · rw [s_cut.2.2]; rfl)
  have HS := Lib.hid (fun (wx : World) (g : Nat) (h : OW wx g 3 sAk rCk rDk rUk) => same13_any g wx.heap.size 3 3 3 sAk rCk rDk rUk (wx.alloc (.cells #[.int .u32 1, .int .i64 0, .bool true, .int .i64 0, .int .u32 2, .int .i64 10, .bool false, .int .i64 10, .int .u32 3, .int .i64 5, .bool false, .int .i64 5] 43))
    (fun i _ => by unfold sAk rCk rUk F64; refine ⟨?_, ?_, ?_⟩ <;> (split <;> (try split) <;> omega)) (h.kept (below_new _ _)) ⟨_, heap_alloc_new _ _, rfl, fun i hi => by
      have : i = 0 ∨ i = 1 ∨ i = 2 := by omega
      rcases this with rfl | rfl | rfl <;> exact ⟨rfl, rfl, rfl, rfl⟩⟩ (by omega))
  clear h1
  go_enter Try.func15, Try.ntmps15
  go_wp2_with (first | ((with_reducible refine at_buildSlice 34 ?_); refine wpList_slice_named rfl 34 39 3 _ rfl #[.int .u32 1, .int .i64 10, .int .i64 (-30), .int .u32 2, .int .i64 0, .int .i64 20, .int .u32 3, .int .i64 0, .int .i64 10] Try.underlying34 (by kernel_rfl) ?_) | (go_at_call 16; (with_reducible refine (c1).mono ?_); rintro e w1 ⟨⟨v, rfl, hv⟩, hb1⟩; obtain ⟨g2, rfl, h2⟩ := HT.out _ _ _ hv; have cs := HS.out _ _ h2; clear hv h2) | ((with_reducible refine at_buildSlice 35 ?_); refine wpList_slice_named rfl 35 43 3 _ rfl #[.int .u32 1, .int .i64 0, .bool true, .int .i64 0, .int .u32 2, .int .i64 10, .bool false, .int .i64 10, .int .u32 3, .int .i64 5, .bool false, .int .i64 5] Try.underlying35 (by kernel_rfl) ?_) | (go_at_call 18; (with_reducible refine (cs).mono ?_); rintro e w2 ⟨rfl, hb2⟩))
  go_ret
  exact ⟨rfl, below_then (below_then (below_new _ _) hb1) (below_then (below_new _ _) hb2)⟩
end Go.Proofs.Yticdcdahehodkaa
