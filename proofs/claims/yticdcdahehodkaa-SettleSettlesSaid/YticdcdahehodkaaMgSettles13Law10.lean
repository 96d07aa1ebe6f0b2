/- Texts that Settles13Law stands on, one behind the other, part 10. Conditions: each theorem names its own. -/
import Derived.Test.YticdcdahehodkaaMgSettles13Law9
import Derived.BigQuiet
import Derived.Deep.CutBlock
/-! tearup's Parts of anything; the document's Same of holders; the known example. Condition: the numbers fit their kinds. -/
namespace Go.Proofs.Yticdcdahehodkaa
set_option linter.unusedVariables false
set_option linter.unusedSimpArgs false
open Go.RowKit

theorem tparts_any (a : Option Addr) (n cap : Nat) (A Q : Nat → Int) (q : Int) (w : World) (hb : ∀ i, (0 ≤ A i ∧ A i ≤ 4294967295) ∧ F64 (Q i)) (hA : Holds w a n A Q) (hq : F64 q) : TearC a n cap A Q q w := by
  by_cases h1 : 64 < n ∨ q = 0 ∨ inB q (-10000000) 10000000 = false ∨ hmay A Q n = false
  · exact tparts_bad a n cap A Q q w hb hA hq h1
  · have h2 : inB q (-10000000) 10000000 = true := by
      cases h : inB q (-10000000) 10000000
      · exact absurd (.inr (.inr (.inl h))) h1
      · rfl
    have h3 : hmay A Q n = true := by
      cases h : hmay A Q n
      · exact absurd (.inr (.inr (.inr h))) h1
      · rfl
    exact tparts_ok a n cap A Q q w hb hA (by
      apply Classical.byContradiction; intro h; exact h1 (.inl (by omega))) (fun h => h1 (.inr (.inl h))) (inB_iff.1 h2) h3

theorem neq_hold (x y : Int) (hx : 0 ≤ x ∧ x ≤ 4294967295) (hy : F64 y) (w : World) : (binOp .neq 32 (.agg (hA x y)) (.agg (hA x y))).run Try.prog w = .ok (.bool false) w := by
  have hc : Try.prog.cellsOf 32 = 2 := by kernel_rfl
  have c2 : Try.prog.cellsOf 2 = 1 := by kernel_rfl
  have c3 : Try.prog.cellsOf 30 = 1 := by kernel_rfl
  refine neq_keys Try.underlying32 (by rw [hc]; rfl) (by kernel_rfl) (kl_fields Try.underlying32 (by rw [hc]; rfl) (by kernel_rfl) fun f hf => ?_) w
  simp only [List.mem_cons, List.not_mem_nil, or_false] at hf
  rcases hf with rfl | rfl
  · exact kl_int Try.underlying30 c3 (IsN_of (n := x) rfl hx)
  · exact kl_int Try.underlying2 c2 (IsN_of (n := y) rfl hy)

set_option maxHeartbeats 2000000 in
/-- two rows of holders alike -/
theorem same14_any (a b : Option Addr) (n ca cb : Nat) (A Q : Nat → Int) (w : World) (hb : ∀ i, i < n → (0 ≤ A i ∧ A i ≤ 4294967295) ∧ F64 (Q i)) (hA : Holds w a n A Q) (hB : Holds w b n A Q) (hn : n ≤ 100000) :
    Calls Try.prog 14 #[.slice a n ca, .slice b n cb] w fun e w' => e = .returned (.bool true) ∧ Below w.heap.size w w' := by
  have HA := Lib.hid hA
  have HB := Lib.hid hB
  have HD := Lib.hid hb
  clear hA hB hb
  go_enter Try.func14, Try.ntmps14
  go_wp2
  go_loopg [5] n (fun gh i wr => ∃ k : Nat, k ≤ n ∧ gh = n - k ∧ i = .int .i64 k ∧ Below w.heap.size w wr)
  case atStart => exact ⟨0, by omega, by omega, rfl, Below.refl _ _⟩
  case round =>
    obtain ⟨k, hk, rfl, rfl, hb⟩ := hrel
    by_cases hlt : k < n
    · obtain ⟨g, off, B, t, fr, rfl, hg, hs, he, _, _⟩ := (HA.out.kept hb).at hlt
      obtain ⟨g2, off2, B2, t2, fr2, rfl, hg2, hs2, he2, _, _⟩ := (HB.out.kept hb).at hlt
      have hki : (k : Int) < n := by omega
      have hne := neq_hold (A k) (Q k) (HD.out k hlt).1 (HD.out k hlt).2
      generalize hA (A k) (Q k) = X at *
      go_wp2
      refine wp_region_below (by kernel_rfl) (by kernel_rfl) ?_
      repeat (first | ((with_reducible apply q_skip); (case hw => rfl); (try simp only [Act.put, List.setIfInBounds_toArray, List.set_cons_zero, List.set_cons_succ])) | ((with_reducible refine at_qload 32 ?_); refine q_load_fr (by rfl) 32 _ rfl (g) (off + k * 2) rfl _ (B) _ _ 2 (hg) Try.underlying32 rfl (by kernel_rfl) (hs) (X) (he) ?_; try simp only [Act.put, List.setIfInBounds_toArray, List.set_cons_zero, List.set_cons_succ]) | ((with_reducible refine at_qload 32 ?_); refine q_load_fr (by rfl) 32 _ rfl (g2) (off2 + k * 2) rfl _ (B2) _ _ 2 (hg2) Try.underlying32 rfl (by kernel_rfl) (hs2) (X) (he2) ?_; try simp only [Act.put, List.setIfInBounds_toArray, List.set_cons_zero, List.set_cons_succ]) | ((with_reducible apply q_val); (case hw => rfl); (case hv => intro wq hbq; go_simp; try rfl); (try simp only [Act.put, List.setIfInBounds_toArray, List.set_cons_zero, List.set_cons_succ])))
      refine q_nil ?_
      intro w4 hb4
      go_wp2
      go_roundg (n - (k + 1))
      case measure => omega
      case rel => exact ⟨k + 1, by omega, rfl, by go_num, below_then hb hb4⟩
    · obtain rfl : k = n := by omega
      go_wp2
      go_ret
      exact ⟨rfl, hb⟩

/-- the known example's holders -/
def kA : Nat → Int := fun i => if i = 0 then 1 else if i = 1 then 2 else 3
def kQ : Nat → Int := fun i => if i = 0 then -10 else if i = 1 then -20 else 5
theorem k_tE : tE 10 3 kA kQ = 0 := by decide
theorem k_tm : tm (tP 10 3 kQ) 3 = 2 := by decide
theorem k_tR0 : tR kA (tP 10 3 kQ) 3 0 = hA 1 3 := by kernel_rfl
theorem k_tR1 : tR kA (tP 10 3 kQ) 3 1 = hA 2 7 := by kernel_rfl
theorem rowsT_holds {w : World} {t : TypeId} {a : Option Addr} {n : Nat} {L : Nat → Array Value} {A Q : Nat → Int} (h : RowsT w t 2 a n L) (e : ∀ i, i < n → L i = hA (A i) (Q i)) : Holds w a n A Q := fun i hi => by
  obtain ⟨g, off, B, fr, h1, h2, h3, h4⟩ := h i hi
  exact ⟨g, off, B, t, fr, h1, h2, h3, by rw [h4, e i hi]⟩
/-- rows that a block holds, one behind the other -/
theorem block_holds {w : World} {g n : Nat} {B : Array Value} {t : TypeId} {fr : Nat × Nat} {A Q : Nat → Int} (hg : w.heap[g]? = some (.cells B t fr)) (hs : B.size = n * 2) (h : ∀ i, i < n → B[i * 2]? = some (.int .u32 (A i)) ∧ B[i * 2 + 1]? = some (.int .i64 (Q i))) : Holds w (some ⟨g, 0, none⟩) n A Q := fun i hi => by
  refine ⟨g, 0, B, t, fr, rfl, hg, by omega, ?_⟩
  apply Array.ext_getElem?
  intro j
  rw [Array.getElem?_extract]
  by_cases h0 : j = 0
  · subst h0; rw [if_pos (by omega), Nat.zero_add, Nat.add_zero, (h i hi).1]; rfl
  · by_cases h1 : j = 1
    · subst h1; rw [if_pos (by omega), Nat.zero_add, (h i hi).2]; rfl
    · rw [if_neg (by omega), Array.getElem?_eq_none_iff.2 (by rw [hA_size]; omega)]
def rA : Nat → Int := fun i => if i = 0 then 1 else 2
def rQ14 : Nat → Int := fun i => if i = 0 then 3 else 7
set_option maxRecDepth 100000 in
set_option maxHeartbeats 2000000 in
theorem known14 (w : World) : Calls Try.prog 11 #[] w fun e w' => e = .returned (.bool true) ∧ Below w.heap.size w w' := by
  have h1 : Holds (w.alloc (.cells #[.int .u32 1, .int .i64 (-10), .int .u32 2, .int .i64 (-20), .int .u32 3, .int .i64 5] 32)) (some ⟨w.heap.size, 0, none⟩) 3 kA kQ :=
    block_holds (heap_alloc_new _ _) rfl (fun i hi => by
      have : i = 0 ∨ i = 1 ∨ i = 2 := by omega
      rcases this with rfl | rfl | rfl <;> exact ⟨rfl, rfl⟩)
  have c1 := tparts_any (some ⟨w.heap.size, 0, none⟩) 3 3 kA kQ 10 _ (fun i => by unfold kA kQ F64; split <;> (try split) <;> omega) h1 (by unfold F64; omega)
  unfold TearC at c1
  rw [k_tE] at c1
  have HT := Lib.hid (fun (s : Nat) (w' : World) (v : Value) (h : TearV 10 3 kA kQ s w' v) => show ∃ a c, v = .slice a 2 c ∧ Holds w' a 2 rA rQ14 from by
    have h2 := h.1 k_tE
    rw [k_tm] at h2
    obtain ⟨a, c, e, h3, _⟩ := own_rows (fun i => tR_size _ _ _ i) h2
    refine ⟨a, c, e, rowsT_holds h3 (fun i hi => ?_)⟩
    have : i = 0 ∨ i = 1 := by omega
    rcases this with rfl | rfl
    · exact k_tR0
    · exact k_tR1)
  have HS := Lib.hid (fun (wx : World) (a : Option Addr) (c : Nat) (h : Holds wx a 2 rA rQ14) => same14_any a (some ⟨wx.heap.size, 0, none⟩) 2 c 2 rA rQ14 (wx.alloc (.cells #[.int .u32 1, .int .i64 3, .int .u32 2, .int .i64 7] 32)) (fun i _ => by unfold rA rQ14 F64; split <;> omega) (h.kept (below_new _ _)) (block_holds (heap_alloc_new _ _) rfl (fun i hi => by
      have : i = 0 ∨ i = 1 := by omega
      rcases this with rfl | rfl <;> exact ⟨rfl, rfl⟩)) (by omega))
  clear h1
  go_enter Try.func11, Try.ntmps11
  go_wp2_with (first | ((with_reducible refine at_buildSlice 22 ?_); refine wpList_slice_named rfl 22 32 3 _ rfl #[.int .u32 1, .int .i64 (-10), .int .u32 2, .int .i64 (-20), .int .u32 3, .int .i64 5] Try.underlying22 (by kernel_rfl) ?_) | (go_at_call 12; (with_reducible refine (c1).mono ?_); rintro e w1 ⟨⟨v, rfl, hv⟩, hb1⟩; obtain ⟨a2, c2, rfl, h2⟩ := HT.out _ _ _ hv; have cs := HS.out _ _ c2 h2; clear hv h2) | ((with_reducible refine at_buildSlice 22 ?_); refine wpList_slice_named rfl 22 32 2 _ rfl #[.int .u32 1, .int .i64 3, .int .u32 2, .int .i64 7] Try.underlying22 (by kernel_rfl) ?_) | (go_at_call 14; (with_reducible refine (cs).mono ?_); rintro e w2 ⟨rfl, hb2⟩))
  go_ret
  exact ⟨rfl, below_then (below_then (below_new _ _) hb1) (below_then (below_new _ _) hb2)⟩
end Go.Proofs.Yticdcdahehodkaa
/-! What holds of the parts of a split. No condition but that there are parts. -/
namespace Go.Proofs.Yticdcdahehodkaa
set_option linter.unusedVariables false
set_option linter.unusedSimpArgs false

/-- the laws of the parts -/
structure Parts (Z : Nat → Int) (n : Nat) (T : Int) : Prop where
  sum : (sumN (splP Z n T) n : Nat) = T
  bd : ∀ i, i < n → (splP Z n T i : Int) ≤ T
  none : ∀ i, i < n → Z i = 0 → splP Z n T i = 0
  most : ∀ i, i < n → T ≤ sumZ Z n → (splP Z n T i : Int) ≤ Z i
  mono : ∀ i k, i < n → k < n → Z k < Z i → splP Z n T k ≤ splP Z n T i
  same : ∀ i k, i < n → k < i → Z i = Z k → splP Z n T i ≤ splP Z n T k ∧ splP Z n T k ≤ splP Z n T i + 1
theorem sumN_two (W : Nat → Nat) {n i k : Nat} (hi : i < n) (hk : k < i) : W k + W i ≤ sumN W n := by
  have h1 := sumN_mono W n (show i + 1 ≤ n by omega)
  have h2 := sumN_one W hk
  have e : sumN W (i + 1) = sumN W i + W i := rfl
  omega
theorem Parts.two {Z : Nat → Int} {n : Nat} {T : Int} (h : Parts Z n T) : ∀ i k, i < n → k < i → (splP Z n T k : Int) + splP Z n T i ≤ T := fun i k hi hk => by
  have := sumN_two (splP Z n T) hi hk
  have := h.sum
  omega
theorem parts_of {Z : Nat → Int} {n : Nat} {T : Int} (h : splE Z n T = 0) : Parts Z n T := by
  obtain ⟨h1, h2, h3, h4, h5, h6⟩ := splE_zero h
  by_cases h0 : T = 0
  · subst h0
    have e : ∀ i, splP Z n 0 i = 0 := fun i => prt_zero _ _ _
    have es : sumN (splP Z n 0) n = 0 := by rw [sumN_congr (V := fun _ => 0) n (fun i _ => e i), sumN_const]; omega
    exact ⟨by rw [es]; rfl, fun i _ => by rw [e]; omega, fun i _ _ => e i, fun i hi _ => by rw [e]; have := h3 i hi; omega, fun i k _ _ _ => by rw [e, e]; omega, fun i k _ _ _ => by rw [e, e]; omega⟩
  · have hS := h4 h0
    obtain ⟨t, rfl⟩ : ∃ t : Nat, T = (t : Int) := ⟨T.toNat, by omega⟩
    have e : ∀ i, splP Z n (t : Int) i = prt (wts Z) n t i := fun i => rfl
    have ez : ∀ i, i < n → Z i = (wts Z i : Nat) := fun i hi => by have := h3 i hi; unfold wts; omega
    refine ⟨?_, fun i hi => ?_, fun i hi hz => ?_, fun i hi hT => ?_, fun i k hi hk hz => ?_, fun i k hi hk hz => ?_⟩
    · have : sumN (splP Z n (t : Int)) n = t := prt_sum hS
      rw [this]
    · rw [e]; have := prt_le (T := t) hS hi; omega
    · rw [e]; exact prt_none hS hi (by have := ez i hi; omega)
    · rw [e, ez i hi]
      have := prt_within (T := t) hS hi (by omega)
      omega
    · rw [e, e]; exact prt_mono hS hi hk (by have := ez i hi; have := ez k hk; omega)
    · rw [e, e]; exact prt_same hS hi hk (by have := ez i hi; have := ez k (by omega); omega)

end Go.Proofs.Yticdcdahehodkaa
/-! TearupWhole, walked: it returns true. Condition: the numbers fit their kinds. -/
namespace Go.Proofs.Yticdcdahehodkaa
set_option linter.unusedVariables false
set_option linter.unusedSimpArgs false
open Go.RowKit

theorem tm_mono (P : Nat → Nat) {i k : Nat} (h : i ≤ k) : tm P i ≤ tm P k := sumN_mono _ k h
theorem tm_lt {P : Nat → Nat} {i k : Nat} (h : i < k) (hp : 0 < P i) : tm P i < tm P k := by
  have h1 := tm_mono P (show i + 1 ≤ k by omega)
  rw [tm_succ, if_pos hp] at h1; omega
theorem tm_inj {P : Nat → Nat} {i k : Nat} (hi : 0 < P i) (hk : 0 < P k) (h : tm P i = tm P k) : i = k := by
  apply Classical.byContradiction; intro hne
  rcases (show i < k ∨ k < i by omega) with h2 | h2
  · have := tm_lt h2 hi; omega
  · have := tm_lt h2 hk; omega
theorem tm_inc {P : Nat → Nat} {i k : Nat} (h : tm P i < tm P k) : i < k := by
  apply Classical.byContradiction; intro hne
  have := tm_mono P (show k ≤ i by omega); omega
theorem tR_at {A : Nat → Int} {P : Nat → Nat} : ∀ k j, j < tm P k → ∃ i, i < k ∧ 0 < P i ∧ tm P i = j ∧ tR A P k j = hA (A i) (P i : Nat)
  | 0, j, h => by simp [tm, cnt, sumN] at h
  | k + 1, j, h => by
    rw [tm_succ] at h
    by_cases hp : 0 < P k
    · rw [if_pos hp] at h
      by_cases e : j = tm P k
      · refine ⟨k, by omega, hp, e.symm, ?_⟩
        show (if 0 < P k then snoc (tR A P k) (tm P k) (hA (A k) (P k : Nat)) else tR A P k) j = _
        rw [if_pos hp, e, snoc_at]
      · obtain ⟨i, h1, h2, h3, h4⟩ := tR_at (A := A) (P := P) k j (by omega)
        refine ⟨i, by omega, h2, h3, ?_⟩
        show (if 0 < P k then snoc (tR A P k) (tm P k) (hA (A k) (P k : Nat)) else tR A P k) j = _
        rw [if_pos hp, snoc_lt _ _ _ j (by omega), h4]
    · rw [if_neg hp] at h
      obtain ⟨i, h1, h2, h3, h4⟩ := tR_at (A := A) (P := P) k j (by omega)
      refine ⟨i, by omega, h2, h3, ?_⟩
      show (if 0 < P k then snoc (tR A P k) (tm P k) (hA (A k) (P k : Nat)) else tR A P k) j = _
      rw [if_neg hp, h4]
/-- what has been told of holder c behind the first j rows -/
def gt (P : Nat → Nat) (n j : Nat) : Nat → Nat := fun c => if c < n ∧ 0 < P c ∧ tm P c < j then P c else 0
theorem gt_zero (P : Nat → Nat) (n : Nat) : gt P n 0 = fun _ => 0 := by
  funext c; unfold gt; rw [if_neg (by omega)]
theorem gt_next {P : Nat → Nat} {n j i : Nat} (hi : i < n) (hp : 0 < P i) (ht : tm P i = j) : gt P n (j + 1) = fun c => if c = i then P i else gt P n j c := by
  funext c; unfold gt
  by_cases e : c = i
  · subst e; rw [if_pos rfl, if_pos ⟨hi, hp, by omega⟩]
  · rw [if_neg e]
    by_cases h : c < n ∧ 0 < P c ∧ tm P c < j
    · rw [if_pos h, if_pos ⟨h.1, h.2.1, by omega⟩]
    · rw [if_neg h, if_neg (fun h2 => h ⟨h2.1, h2.2.1, by
        have : tm P c ≠ j := fun h3 => e (tm_inj h2.2.1 hp (by omega))
        omega⟩)]
theorem gt_all {P : Nat → Nat} {n c : Nat} (hc : c < n) : gt P n (tm P n) c = P c := by
  unfold gt
  by_cases h : 0 < P c
  · rw [if_pos ⟨hc, h, tm_lt hc h⟩]
  · rw [if_neg (fun h2 => h h2.2.1)]; omega
theorem gt_at {P : Nat → Nat} {n j i : Nat} (ht : tm P i = j) : gt P n j i = 0 := by unfold gt; rw [if_neg (by omega)]
theorem sumN_put {f : Nat → Nat} {x v : Nat} : ∀ n, x < n → f x = 0 → sumN (fun c => if c = x then v else f c) n = sumN f n + v
  | 0, h, _ => by omega
  | n + 1, h, h0 => by
    show sumN (fun c => if c = x then v else f c) n + (if n = x then v else f n) = sumN f n + f n + v
    by_cases e : n = x
    · subst e
      rw [if_pos rfl, h0, sumN_congr (V := f) n (fun i hi => by rw [if_neg (by omega)])]; omega
    · rw [if_neg e, sumN_put n (by omega) h0]; omega
/-- the accounts rise -/
theorem hmay_inc {A Q : Nat → Int} {n : Nat} (h : hmay A Q n = true) : ∀ k i, i < k → k < n → A i < A k
  | 0, i, hi, _ => by omega
  | k + 1, i, hi, hk => by
    have h1 := (hmay_at h hk).1
    rw [if_neg (by omega), show k + 1 - 1 = k by omega] at h1
    by_cases e : i = k
    · subst e; exact h1
    · have := hmay_inc h k i (by omega) (by omega); omega
theorem max_opp {q n : Int} (hq : q ≠ 0) : oppI q n = if 0 < (if q < 0 then n else -n) then (if q < 0 then n else -n) else 0 := by
  unfold oppI absI
  by_cases h1 : q < 0
  · rw [decide_eq_false (show ¬ 0 < q by omega), if_pos h1]
    by_cases h2 : 0 < n
    · rw [decide_eq_true h2, if_neg (by simp), if_pos h2, if_pos (by omega)]
    · rw [decide_eq_false h2, if_pos rfl, if_neg h2]
  · rw [decide_eq_true (show 0 < q by omega), if_neg h1]
    by_cases h2 : 0 < n
    · rw [decide_eq_true h2, if_pos rfl, if_neg (by omega)]
    · rw [decide_eq_false h2, if_neg (by simp)]
      by_cases h3 : 0 < -n
      · rw [if_pos h3, if_neg (by omega)]
      · rw [if_neg h3, if_pos (by omega)]; omega

theorem tE_q0' {q : Int} {n : Nat} {A Q : Nat → Int} (h : tE q n A Q = 0) : q ≠ 0 := fun h0 => by
  unfold tE at h
  split at h
  · omega
  · rw [if_pos (.inl h0)] at h; omega
theorem tE_ok {q : Int} {n : Nat} {A Q : Nat → Int} (h : tE q n A Q = 0) : n ≤ 64 ∧ (-10000000 ≤ q ∧ q ≤ 10000000) ∧ hmay A Q n = true ∧ absI q ≤ sumZ (tW q n Q) n := by
  unfold tE at h
  split at h
  · omega
  · rename_i h1
    split at h
    · omega
    · rename_i h2
      split at h
      · omega
      · rename_i h3
        refine ⟨by omega, inB_iff.1 ?_, ?_, by omega⟩
        · cases e : inB q (-10000000) 10000000
          · exact absurd (.inr (.inl e)) h2
          · rfl
        · cases e : hmay A Q n
          · exact absurd (.inr (.inr e)) h2
          · rfl
/-- the table of what was told -/
structure TG (w wr : World) (g8 : Nat) (f : Nat → Nat) : Prop where
  below : Below w.heap.size w wr
  row : ∃ G, wr.heap[g8]? = some (.cells G 29 (0, 0)) ∧ G.size = 64 ∧ ∀ c, c < 64 → G[c]? = some (.int .i64 (f c : Nat))
theorem TG.kept {w wr w' : World} {g8 : Nat} {f : Nat → Nat} (h : TG w wr g8 f) (hb : Below wr.heap.size wr w') : TG w w' g8 f := by
  obtain ⟨G, h1, h2⟩ := h.row
  exact ⟨below_then h.below hb, G, Yticdcdahehodkaa.kept hb h1, h2⟩
theorem TG.drawn {w wr : World} {g8 nq : Nat} {f : Nat → Nat} (h : TG w wr g8 f) : TG w (wr.drewN nq) g8 f := h.kept (below_drawn (Below.refl _ _))
theorem TG.set {w wr : World} {g8 x v : Nat} {f : Nat → Nat} (h : TG w wr g8 f) (hg : w.heap.size ≤ g8) (hx : x < 64) : TG w (wr.setCell ⟨g8, x, none⟩ (.int .i64 (v : Nat))) g8 (fun c => if c = x then v else f c) := by
  obtain ⟨G, h1, h2, h3⟩ := h.row
  refine ⟨below_setS h.below hg, _, heap_set h1, by simp [h2], fun c hc => ?_⟩
  by_cases e : c = x
  · subst e; simp only [if_true]; rw [Array.getElem?_setIfInBounds_self_of_lt (by omega)]
  · rw [Array.getElem?_setIfInBounds_ne (by omega), h3 c hc, if_neg e]
theorem TG.cell {w wr : World} {g8 : Nat} {f : Nat → Nat} (h : TG w wr g8 f) {c : Nat} (hc : c < 64) : wr.cell? ⟨g8, c, none⟩ = some (.int .i64 (f c : Nat)) ∧ wr.frozen? ⟨g8, c, none⟩ = false := by
  obtain ⟨G, h1, h2, h3⟩ := h.row
  exact ⟨((cells_of h1).1 c).trans (h3 c hc), (cells_of h1).2.1 c⟩
theorem TG.congr {w wr : World} {g8 : Nat} {f f' : Nat → Nat} (h : TG w wr g8 f) (e : f = f') : TG w wr g8 f' := e ▸ h
def z64 : Array Value := Array.replicate 64 (.int .i64 0)
theorem z64_TG {w w2 : World} (hb : Below w.heap.size w w2) : TG w (w2.alloc (.cells z64 29)) w2.heap.size (fun _ => 0) :=
  ⟨below_alloc hb _, z64, heap_alloc_new _ _, by simp [z64], fun c hc => by unfold z64; rw [Array.getElem?_replicate, if_pos hc]; rfl⟩

set_option maxRecDepth 100000 in
set_option maxHeartbeats 8000000 in
theorem whole14_walk (a : Option Addr) (n cap : Nat) (A Q : Nat → Int) (q : Int) (W : World) (hq : F64 q) (hb : ∀ i, (0 ≤ A i ∧ A i ≤ 4294967295) ∧ F64 (Q i)) (hA : Holds W a n A Q) :
    Calls Try.prog 4 #[.int .i64 q, .slice a n cap] W fun e W' => e = .returned (.bool true) ∧ Below W.heap.size W W' := by
  have c1 := tparts_any a n cap A Q q W hb hA hq
  unfold TearC at c1
  have HA := Lib.hid hA
  clear hA hq
  by_cases hE : tE q n A Q = 0
  · have hq0 := tE_q0' hE
    obtain ⟨hn, hq, hm, hsm⟩ := tE_ok hE
    have hsp := tW_split (q := q) hm hn hq0 hq hsm
    obtain ⟨P, hP⟩ : ∃ P, P = tP q n Q := ⟨_, rfl⟩
    have HPT := Lib.hid (show Parts (tW q n Q) n (absI q) from parts_of hsp)
    have HPE := Lib.hid (show P = splP (tW q n Q) n (absI q) from hP)
    have hqa := absI_bd hq
    have HPB := Lib.hid (show ∀ i, i < n → P i ≤ 10000000 from fun i hi => by
      have := HPT.out.bd i hi; rw [HPE.out]; omega)
    have HSUM := Lib.hid (show ((sumN P n : Nat) : Int) = absI q from by rw [HPE.out]; exact HPT.out.sum)
    obtain ⟨m, hmm⟩ : ∃ m, m = tm P n := ⟨_, rfl⟩
    obtain ⟨ix, hix⟩ := Deep.choose_lt (α := Nat) (n := m) (p := fun j i => i < n ∧ 0 < P i ∧ tm P i = j ∧ tR A P n j = hA (A i) (P i : Nat)) (fun j hj => by
      obtain ⟨i, h⟩ := tR_at (A := A) (P := P) n j (by rw [← hmm]; exact hj)
      exact ⟨i, h⟩)
    have HIX := Lib.hid hix
    have HSM := Lib.hid hsm
    have HM := Lib.hid hm
    have HMM := Lib.hid hmm
    have HE := Lib.hid hE
    have HQ := Lib.hid hq
    have hmn : m ≤ n := by rw [hmm]; exact cnt_le _ _
    rw [hE] at c1
    have HV := Lib.hid (fun (w' : World) (v : Value) (h : TearV q n A Q W.heap.size w' v) => show ∃ a1 d1, v = .slice a1 m d1 ∧ Holds w' a1 m (fun j => A (ix j)) (fun j => (P (ix j) : Nat)) from by
      have h1 := h.1 HE.out
      rw [← hP, ← hmm] at h1
      obtain ⟨a1, d1, e, h2, _⟩ := own_rows (fun i => tR_size _ _ _ _) h1
      exact ⟨a1, d1, e, rowsT_holds h2 (fun j hj => (HIX.out j hj).2.2.2)⟩)
    clear hE hm hsm hsp hP hix hmm hq hb
    go_enter Try.func4, Try.ntmps4
    go_wp2_with fail
    refine c1.mono ?_
    rintro e w1 ⟨⟨v, rfl, hv⟩, hb1⟩
    obtain ⟨a1, d1, rfl, hH1⟩ := HV.out w1 v hv
    have HH := Lib.hid hH1
    have HB1 := Lib.hid hb1
    clear hv hH1 hb1 c1 HV
    go_wp2_with (first | ((with_reducible refine at_alloc 29 ?_); refine wpList_alloc_named rfl 29 rfl (z64) (by kernel_rfl) ?_))
    obtain ⟨g8, hg8⟩ : ∃ g8, g8 = w1.heap.size := ⟨_, rfl⟩
    have T0 := Lib.hid (show TG w1 (w1.alloc (Obj.cells z64 29)) g8 (gt P n 0) from by rw [hg8, gt_zero]; exact z64_TG (Below.refl _ _))
    rw [← hg8]
    have hg8' : w1.heap.size ≤ g8 := by omega
    clear hg8
    go_loopg [7, 32] m (fun gh v7 vi wr => ∃ j : Nat, j ≤ m ∧ gh = m - j ∧ vi = .int .i64 j ∧ v7 = .int .i64 (sumN (gt P n j) n : Nat) ∧ TG w1 wr g8 (gt P n j))
    case atStart => exact ⟨0, by omega, by omega, rfl, by rw [gt_zero, sumN_const]; rfl, T0.out⟩
    case round =>
      clear T0
      obtain ⟨j, hj, rfl, rfl, rfl, hT⟩ := hrel
      have HT := Lib.hid hT
      clear hT
      by_cases hjm : j < m
      · obtain ⟨hi1, hi2, hi3, _⟩ := HIX.out j hjm
        have hjz : (j : Int) < m := by omega
        obtain ⟨i, hi⟩ : ∃ i, i = ix j := ⟨_, rfl⟩
        rw [← hi] at hi1 hi2 hi3
        have hpb := HPB.out i hi1
        obtain ⟨s0, hs0⟩ : ∃ s0, s0 = sumN (gt P n j) n := ⟨_, rfl⟩
        have hsb : s0 ≤ 640000000 := by
          have := sumN_le (W := gt P n j) (V := fun _ => 10000000) n (fun c hc => by
            unfold gt; split
            · exact HPB.out c hc
            · omega)
          rw [sumN_const] at this; omega
        have HNX := Lib.hid (show sumN (gt P n (j + 1)) n = s0 + P i from by
          rw [gt_next hi1 hi2 hi3, sumN_put n hi1 (gt_at hi3), hs0])
        have HGN := Lib.hid (gt_next (P := P) (n := n) hi1 hi2 hi3)
        have HGA := Lib.hid (gt_at (P := P) (n := n) hi3)
        rw [← hs0]
        have HINC : ∀ k, k < n → k ≠ i → (A k == A i) = false := fun k hk hne => by
          rw [beq_eq_false_iff_ne]
          rcases (show k < i ∨ i < k by omega) with h | h
          · have := hmay_inc HM.out i k h hi1; omega
          · have := hmay_inc HM.out k i h hk; omega
        have HINC := Lib.hid HINC
        have HI := Lib.hid hi
        have HPI := Lib.hid hi2
        clear hs0 hi2 hi3 hi
        have hin : (i : Int) < n := by omega
        go_wp2_with fail
        go_loopg [10, 37] n (fun gh v10 vi wr2 => ∃ k : Nat, k ≤ n ∧ gh = n - k ∧ vi = .int .i64 k ∧ v10 = .bool (decide (i < k)) ∧ TG w1 wr2 g8 (fun c => if c = i ∧ i < k then P i else gt P n j c))
        case atStart => exact ⟨0, by omega, by omega, rfl, by rw [decide_eq_false (by omega)], HT.out.congr (by funext c; rw [if_neg (by omega)])⟩
        case round =>
          obtain ⟨k, hk, rfl, rfl, rfl, hT2⟩ := hrel
          have HT2 := Lib.hid hT2
          clear hT2
          by_cases hkn : k < n
          · have hbw := below_then HB1.out HT2.out.below
            obtain ⟨g, off, B, t, fr, rfl, hg, hs, he, c0, c1⟩ := (HA.out.kept hbw).at hkn
            obtain ⟨g2, off2, B2, t2, fr2, rfl, hg2, hs2, he2, d0, d1⟩ := (HH.out.kept HT2.out.below).at hjm
            rw [← HI.out] at d0 d1
            have b0 : B[off + k * 2]? = some (.int .u32 (A k)) := by rw [cellF hg] at c0; exact c0
            have b2 : B2[off2 + j * 2]? = some (.int .u32 (A i)) := by rw [cellF hg2] at d0; exact d0
            have b3 : B2[off2 + j * 2 + 1]? = some (.int .i64 (P i : Nat)) := by rw [cellF hg2] at d1; exact d1
            have hkz : (k : Int) < n := by omega
            have hk64 : (k : Int) < 64 := by omega
            have hjz2 : (j : Int) < m := by omega
            clear c0 c1 d0 d1 hs he hs2 he2 hbw
            by_cases hki : k = i
            · subst hki
              have hdf : decide (k < k) = false := by rw [decide_eq_false_iff_not]; omega
              rw [hdf]
              have HDT := Lib.hid (show decide (k < k + 1) = true from by rw [decide_eq_true_iff]; omega)
              clear hdf
              obtain ⟨pk, hpk⟩ : ∃ pk, pk = P k := ⟨_, rfl⟩
              rw [← hpk] at b3
              have HPK := Lib.hid hpk
              generalize A k = x at *
              clear hpk
              go_wp2_with fail
              refine wp_region_below (by kernel_rfl) (by kernel_rfl) ?_
              repeat (first | ((with_reducible apply q_skip); (case hw => rfl); (try simp only [Act.put, List.setIfInBounds_toArray, List.set_cons_zero, List.set_cons_succ])) | ((with_reducible apply q_val); (case hw => rfl); (case hv => intro wq hbq; have hcq := cellF (Yticdcdahehodkaa.kept hbq hg); have hcr := cellF (Yticdcdahehodkaa.kept hbq hg2); go_simp; try rfl); (try simp only [Act.put, List.setIfInBounds_toArray, List.set_cons_zero, List.set_cons_succ])))
              refine q_nil ?_
              intro w4 hb4
              have HT4 := Lib.hid (HT2.out.kept hb4)
              obtain ⟨e1, e2⟩ := HT4.out.cell (c := k) (by omega)
              have HTN := Lib.hid (HT4.out.set (x := k) (v := pk) hg8' (by omega))
              have d1 : w4.cell? ⟨g2, off2 + j * 2 + 1, none⟩ = some (.int .i64 (pk : Nat)) := by rw [cellF (Yticdcdahehodkaa.kept hb4 hg2)]; exact b3
              clear hg hg2 b0 b2 b3 hb4
              go_wp2_with fail
              go_roundg (n - (k + 1))
              case measure => omega
              case rel => exact ⟨k + 1, by omega, rfl, by go_num, by rw [HDT.out], HTN.out.congr (by
                funext c
                by_cases e : c = k
                · rw [if_pos e, if_pos ⟨e, by omega⟩, HPK.out]
                · rw [if_neg e, if_neg (fun h => e h.1), if_neg (fun h => e h.1)])⟩
            · have hne := HINC.out k hkn hki
              have HDD := Lib.hid (show decide (i < k + 1) = decide (i < k) from by rw [decide_eq_decide]; omega)
              obtain ⟨bb, hbb⟩ : ∃ bb, bb = decide (i < k) := ⟨_, rfl⟩
              have HBBB := Lib.hid hbb
              rw [← hbb]
              clear hbb
              generalize A k = x at *
              generalize A i = x2 at *
              go_wp2_with fail
              refine wp_region_below (by kernel_rfl) (by kernel_rfl) ?_
              repeat (first | ((with_reducible apply q_skip); (case hw => rfl); (try simp only [Act.put, List.setIfInBounds_toArray, List.set_cons_zero, List.set_cons_succ])) | ((with_reducible apply q_val); (case hw => rfl); (case hv => intro wq hbq; have hcq := cellF (Yticdcdahehodkaa.kept hbq hg); have hcr := cellF (Yticdcdahehodkaa.kept hbq hg2); go_simp; try rfl); (try simp only [Act.put, List.setIfInBounds_toArray, List.set_cons_zero, List.set_cons_succ])))
              refine q_nil ?_
              intro w4 hb4
              have HT4 := Lib.hid (HT2.out.kept hb4)
              clear hg hg2 b0 b2 b3 hb4
              go_wp2_with fail
              go_roundg (n - (k + 1))
              case measure => omega
              case rel => exact ⟨k + 1, by omega, rfl, by go_num, by rw [HDD.out, HBBB.out], HT4.out.congr (by
                funext c
                by_cases e : c = i
                · by_cases h2 : i < k
                  · rw [if_pos ⟨e, h2⟩, if_pos ⟨e, by omega⟩]
                  · rw [if_neg (fun h => h2 h.2), if_neg (fun h => h2 (by omega))]
                · rw [if_neg (fun h => e h.1), if_neg (fun h => e h.1)])⟩
          · obtain rfl : k = n := by omega
            have hdt : decide (i < k) = true := by rw [decide_eq_true_iff]; exact hi1
            rw [hdt]
            have HTN := Lib.hid (HT2.out.congr (f' := gt P k (j + 1)) (by
              rw [HGN.out]
              funext c
              by_cases e : c = i
              · rw [if_pos ⟨e, hi1⟩, if_pos e]
              · rw [if_neg (fun h => e h.1), if_neg e]))
            obtain ⟨g2, off2, B2, t2, fr2, rfl, hg2, hs2, he2, d0, d1⟩ := (HH.out.kept HTN.out.below).at hjm
            rw [← HI.out] at d0 d1
            have b2 : B2[off2 + j * 2]? = some (.int .u32 (A i)) := by rw [cellF hg2] at d0; exact d0
            have b3 : B2[off2 + j * 2 + 1]? = some (.int .i64 (P i : Nat)) := by rw [cellF hg2] at d1; exact d1
            have hPI := HPI.out
            obtain ⟨p, hp⟩ : ∃ p, p = P i := ⟨_, rfl⟩
            rw [← hp] at b3 hPI hpb
            have HP2 := Lib.hid hp
            have hjz2 : (j : Int) < m := by omega
            have hp1 : ¬ (p : Int) < 1 := by omega
            have ws : IntKind.i64.wrap ((s0 : Int) + (p : Int)) = ((s0 + p : Nat) : Int) := by rw [IntKind.wrap_i64]; omega
            have HNS := Lib.hid (show sumN (gt P k (j + 1)) k = s0 + p from by rw [HNX.out, hp])
            have HJ1 := Lib.hid (fun (j1 : Nat) (hj1 : j = j1 + 1) => show A (ix j1) < A i from by
              obtain ⟨q1, q2, q3, _⟩ := HIX.out j1 (by omega)
              obtain ⟨r1, r2, r3, _⟩ := HIX.out j hjm
              have h5 : ix j1 < ix j := tm_inc (P := P) (by omega)
              rw [HI.out]; exact hmay_inc HM.out _ _ h5 r1)
            have hsj : IntKind.i64.wrap ((j : Int) + 1) = ((j + 1 : Nat) : Int) := by rw [IntKind.wrap_i64]; omega
            clear hp d0 hs2 he2 hdt
            go_upto_region 17 with fail
            go_cut [86] from 59 to 86 (fun v86 wx => v86 = .bool false ∧ TG w1 wx g8 (gt P k (j + 1)))
            case first =>
              by_cases hj0 : j = 0
              · subst hj0
                clear HJ1
                have hg := hg2
                refine wp_region_below (by kernel_rfl) (by kernel_rfl) ?_
                repeat (first | ((with_reducible apply q_skip); (case hw => rfl); (try simp only [Act.put, List.setIfInBounds_toArray, List.set_cons_zero, List.set_cons_succ])) | ((with_reducible apply q_val); (case hw => rfl); (case hv => intro wq hbq; have hcq := cellF (Yticdcdahehodkaa.kept hbq hg); have hcr := cellF (Yticdcdahehodkaa.kept hbq hg2); go_simp; try rfl); (try simp only [Act.put, List.setIfInBounds_toArray, List.set_cons_zero, List.set_cons_succ])))
                refine q_nil ?_
                intro w4 hb4
                go_wp2_with fail
                go_meet
                exact ⟨rfl, HTN.out.kept hb4⟩
              · obtain ⟨j1, hj1⟩ : ∃ j1, j = j1 + 1 := ⟨j - 1, by omega⟩
                have hja := HJ1.out j1 hj1
                have hjp : 0 < (j : Int) := by omega
                have hjn : 0 < j := by omega
                have wj : IntKind.i64.wrap ((j : Int) - 1) = (j1 : Int) := by rw [IntKind.wrap_i64]; omega
                obtain ⟨g3, off3, B3, t3, fr3, e3, hg3, hs3, he3, f0, f1⟩ := (HH.out.kept HTN.out.below).at (show j1 < m by omega)
                injection e3 with e3; injection e3 with e31 e32
                subst e31; subst e32
                rw [hg2] at hg3; injection hg3 with hg3; injection hg3 with hg31 hg32 hg33
                subst hg31
                have b4 : B2[off2 + j1 * 2]? = some (.int .u32 (A (ix j1))) := by rw [cellF hg2] at f0; exact f0
                have hle : ¬ A i ≤ A (ix j1) := by omega
                have hj1m : (j1 : Int) < m := by omega
                clear HJ1 hj1 hja f0 f1 hs3 he3 d1
                generalize A i = x at *
                generalize A (ix j1) = x1 at *
                have hg := hg2
                refine wp_region_below (by kernel_rfl) (by kernel_rfl) ?_
                repeat (first | ((with_reducible apply q_skip); (case hw => rfl); (try simp only [Act.put, List.setIfInBounds_toArray, List.set_cons_zero, List.set_cons_succ])) | ((with_reducible apply q_val); (case hw => rfl); (case hv => intro wq hbq; have hcq := cellF (Yticdcdahehodkaa.kept hbq hg); have hcr := cellF (Yticdcdahehodkaa.kept hbq hg2); go_simp; try rfl); (try simp only [Act.put, List.setIfInBounds_toArray, List.set_cons_zero, List.set_cons_succ])))
                refine q_nil ?_
                intro w4 hb4
                go_wp2_with fail
                go_meet
                exact ⟨rfl, HTN.out.kept hb4⟩
            case rest =>
              obtain ⟨rfl, hTx⟩ := hcut
              have HTX := Lib.hid hTx
              obtain ⟨g3, off3, B3, t3, fr3, e3, hg3, hs3, he3, f0, f1⟩ := (HH.out.kept HTX.out.below).at hjm
              injection e3 with e3; injection e3 with e31 e32
              subst e31; subst e32
              rw [← HI.out, ← HP2.out] at f1
              clear hTx hg3 hs3 he3 f0 b2 b3 hg2 d1
              go_wp2_with fail
              go_roundg (m - (j + 1))
              case measure => omega
              case rel => exact ⟨j + 1, by omega, rfl, by go_num, by rw [HNS.out]; go_num, HTX.out⟩
      · obtain rfl : j = m := by omega
        have HTG := Lib.hid (HT.out.congr (f' := gt P n j) rfl)
        have HGP := Lib.hid (show ∀ c, c < n → gt P n j c = P c from fun c hc => by rw [HMM.out]; exact gt_all hc)
        have HFS := Lib.hid (show ((sumN (gt P n j) n : Nat) : Int) = absI q from by
          rw [sumN_congr n (fun c hc => HGP.out c hc)]; exact HSUM.out)
        obtain ⟨s0, hs0⟩ : ∃ s0 : Int, s0 = ((sumN (gt P n j) n : Nat) : Int) := ⟨_, rfl⟩
        rw [← hs0]
        have HS0 := Lib.hid (show s0 = absI q from hs0.trans HFS.out)
        clear hs0 HT
        have HMOST := Lib.hid (show ∀ k, k < n → (P k : Int) ≤ if 0 < (if q < 0 then Q k else -(Q k)) then (if q < 0 then Q k else -(Q k)) else 0 from fun k hk => by
          have h1 := HPT.out.most k hk HSM.out
          rw [← HPE.out] at h1
          rw [show tW q n Q k = oppI q (Q k) from if_pos hk, max_opp hq0] at h1
          exact h1)
        have HMONO := Lib.hid (show ∀ k i, k < n → i < n → (if q < 0 then Q i else -(Q i)) < (if q < 0 then Q k else -(Q k)) → P i ≤ P k from fun k i hk hi h => by
          have ek : tW q n Q k = if 0 < (if q < 0 then Q k else -(Q k)) then (if q < 0 then Q k else -(Q k)) else 0 := by
            rw [show tW q n Q k = oppI q (Q k) from if_pos hk, max_opp hq0]
          have ei : tW q n Q i = if 0 < (if q < 0 then Q i else -(Q i)) then (if q < 0 then Q i else -(Q i)) else 0 := by
            rw [show tW q n Q i = oppI q (Q i) from if_pos hi, max_opp hq0]
          by_cases h1 : tW q n Q i < tW q n Q k
          · have := HPT.out.mono k i hk hi h1
            rw [← HPE.out] at this; exact this
          · have h2 : tW q n Q i = 0 := by
              generalize (if q < 0 then Q i else -(Q i)) = x at *
              generalize (if q < 0 then Q k else -(Q k)) = z at *
              rw [ek, ei] at h1
              rw [ei]
              split at h1 <;> split at h1 <;> (split <;> omega)
            have := HPT.out.none i hi h2
            rw [← HPE.out] at this; omega)
        have habs : q < 0 ∨ 0 < q := by omega
        rcases habs with hqn | hqp
        · have HMOST := Lib.hid (show ∀ k, k < n → (P k : Int) ≤ if 0 < Q k then Q k else 0 from fun k hk => by have := HMOST.out k hk; rw [if_pos hqn] at this; exact this)
          have HMONO := Lib.hid (show ∀ k i, k < n → i < n → Q i < Q k → P i ≤ P k from fun k i hk hi h => by have := HMONO.out k i hk hi; rw [if_pos hqn, if_pos hqn] at this; exact this h)
          have HS0 := Lib.hid (show s0 = -q from by rw [HS0.out]; exact if_neg (by omega))
          go_wp2_with fail
          go_loopg [97] n (fun gh vi wr => ∃ k : Nat, k ≤ n ∧ gh = n - k ∧ vi = .int .i64 k ∧ TG w1 wr g8 (gt P n j))
          case atStart => exact ⟨0, by omega, by omega, rfl, HTG.out⟩
          case round =>
            clear HTG
            obtain ⟨k, hk, rfl, rfl, hT⟩ := hrel
            have HT := Lib.hid hT
            clear hT
            by_cases hkn : k < n
            · obtain ⟨g, off, B, t, fr, rfl, hg, hs, he, c0, c1⟩ := (HA.out.kept (below_then HB1.out HT.out.below)).at hkn
              obtain ⟨e1, e2⟩ := HT.out.cell (c := k) (by omega)
              rw [HGP.out k hkn] at e1
              have hyb := (hmay_at HM.out hkn).2
              have hkz : (k : Int) < n := by omega
              have hk64 : (k : Int) < 64 := by omega
              have HMK := Lib.hid (HMOST.out k hkn)
              have HMO := Lib.hid (fun i hi => HMONO.out k i hkn hi)
              obtain ⟨y, hy⟩ : ∃ y, y = Q k := ⟨_, rfl⟩
              obtain ⟨p, hp⟩ : ∃ p, p = P k := ⟨_, rfl⟩
              rw [← hy] at c1 hyb HMK HMO
              rw [← hp] at e1 HMK HMO
              have HPE2 := Lib.hid hp
              have wy : IntKind.i64.wrap (-y) = -y := by rw [IntKind.wrap_i64]; omega
              clear hs he c0 hg hy hp
              go_upto_region 27 with fail
              go_cut [118] from 113 to 118 (fun v118 wx => v118 = .bool false ∧ wx = wr)
              case first =>
                have hmk := HMK.out
                by_cases h0 : 0 < y
                · rw [if_pos h0] at hmk
                  have h9 : ¬ y ≤ 0 := by omega
                  have h1 : ¬ y < (p : Int) := by omega
                  clear hmk
                  go_wp2_with fail
                  go_meet
                  exact ⟨by congr 1; rw [decide_eq_false_iff_not]; omega, rfl⟩
                · rw [if_neg h0] at hmk
                  obtain rfl : p = 0 := by omega
                  have h9 : y ≤ 0 := by omega
                  clear hmk
                  go_wp2_with fail
                  go_meet
                  exact ⟨by congr 1; rw [decide_eq_false_iff_not]; omega, rfl⟩
              case rest =>
                obtain ⟨rfl, hwx⟩ := hcut
                obtain rfl := hwx
                clear c1 e1 e2 HMK
                go_wp2_with fail
                go_loopg [121] n (fun gh vi wy => ∃ i : Nat, i ≤ n ∧ gh = n - i ∧ vi = .int .i64 i ∧ TG w1 wy g8 (gt P n j))
                case atStart => exact ⟨0, by omega, by omega, rfl, HT.out⟩
                case round =>
                  clear HT
                  obtain ⟨i, hi, rfl, rfl, hT⟩ := hrel
                  have HT := Lib.hid hT
                  clear hT
                  by_cases hin : i < n
                  · obtain ⟨g', off', B, t, fr, e', hg, hs, he, c0, c1⟩ := (HA.out.kept (below_then HB1.out HT.out.below)).at hin
                    injection e' with e'; injection e' with e31 e32
                    subst e31; subst e32
                    obtain ⟨G, hG, hG2, hG3⟩ := HT.out.row
                    have e1 := hG3 k (by omega)
                    have e3 := hG3 i (by omega)
                    rw [HGP.out k hkn, ← HPE2.out] at e1
                    rw [HGP.out i hin] at e3
                    have hiz : (i : Int) < n := by omega
                    have hi64 : (i : Int) < 64 := by omega
                    have hub := (hmay_at HM.out hin).2
                    have hmo := HMO.out i hin
                    obtain ⟨u, hu⟩ : ∃ u, u = Q i := ⟨_, rfl⟩
                    rw [← hu] at c1 hmo hub
                    generalize P i = pi at *
                    have wu : IntKind.i64.wrap (-u) = -u := by rw [IntKind.wrap_i64]; omega
                    clear hs he c0 hg hu
                    go_upto_region 35 with fail
                    go_cut [148] from 137 to 148 (fun v148 wx => v148 = .bool false ∧ TG w1 wx g8 (gt P n j))
                    case first =>
                      have hg := hG
                      have hg2 := hG
                      by_cases h0 : u < y
                      · have h1 : ¬ (p : Int) < (pi : Int) := by have := hmo h0; omega
                        clear hmo c1
                        refine wp_region_below (by kernel_rfl) (by kernel_rfl) ?_
                        repeat (first | ((with_reducible apply q_skip); (case hw => rfl); (try simp only [Act.put, List.setIfInBounds_toArray, List.set_cons_zero, List.set_cons_succ])) | ((with_reducible apply q_val); (case hw => rfl); (case hv => intro wq hbq; have hcq := cellF (Yticdcdahehodkaa.kept hbq hg); have hcr := cellF (Yticdcdahehodkaa.kept hbq hg2); go_simp; try rfl); (try simp only [Act.put, List.setIfInBounds_toArray, List.set_cons_zero, List.set_cons_succ])))
                        refine q_nil ?_
                        intro w4 hb4
                        go_wp2_with fail
                        go_meet
                        exact ⟨rfl, HT.out.kept hb4⟩
                      · clear hmo c1
                        refine wp_region_below (by kernel_rfl) (by kernel_rfl) ?_
                        repeat (first | ((with_reducible apply q_skip); (case hw => rfl); (try simp only [Act.put, List.setIfInBounds_toArray, List.set_cons_zero, List.set_cons_succ])) | ((with_reducible apply q_val); (case hw => rfl); (case hv => intro wq hbq; have hcq := cellF (Yticdcdahehodkaa.kept hbq hg); have hcr := cellF (Yticdcdahehodkaa.kept hbq hg2); go_simp; try rfl); (try simp only [Act.put, List.setIfInBounds_toArray, List.set_cons_zero, List.set_cons_succ])))
                        refine q_nil ?_
                        intro w4 hb4
                        go_wp2_with fail
                        go_meet
                        exact ⟨rfl, HT.out.kept hb4⟩
                    case rest =>
                      obtain ⟨rfl, hTx⟩ := hcut
                      have HTX := Lib.hid hTx
                      clear hTx hG hG2 hG3 e1 e3 c1 hmo
                      go_wp2_with fail
                      go_roundg (n - (i + 1))
                      case measure => omega
                      case rel => exact ⟨i + 1, by omega, rfl, by go_num, HTX.out⟩
                  · obtain rfl : i = n := by omega
                    go_wp2_with fail
                    go_roundg (i - (k + 1))
                    case measure => omega
                    case rel => exact ⟨k + 1, by omega, rfl, by go_num, HT.out⟩
            · obtain rfl : k = n := by omega
              have HBF := Lib.hid (below_then HB1.out HT.out.below)
              clear HT
              have hs := HS0.out
              subst hs
              have hse : (-q == q) = false := by rw [beq_eq_false_iff_ne]; omega
              have wq : IntKind.i64.wrap (-q) = -q := by have := HQ.out; rw [IntKind.wrap_i64]; omega
              go_wp2_with (first | (go_at_call 11; (with_reducible refine (known14 _).mono ?_); rintro e w5 ⟨rfl, hb5⟩))
              go_ret
              exact ⟨rfl, below_then HBF.out hb5⟩
        · have hqn : ¬ q < 0 := by omega
          have HMOST := Lib.hid (show ∀ k, k < n → (P k : Int) ≤ if 0 < -(Q k) then -(Q k) else 0 from fun k hk => by have := HMOST.out k hk; rw [if_neg hqn] at this; exact this)
          have HMONO := Lib.hid (show ∀ k i, k < n → i < n → -(Q i) < -(Q k) → P i ≤ P k from fun k i hk hi h => by have := HMONO.out k i hk hi; rw [if_neg hqn, if_neg hqn] at this; exact this h)
          have HS0 := Lib.hid (show s0 = q from by rw [HS0.out]; exact if_pos (by omega))
          go_wp2_with fail
          go_loopg [97] n (fun gh vi wr => ∃ k : Nat, k ≤ n ∧ gh = n - k ∧ vi = .int .i64 k ∧ TG w1 wr g8 (gt P n j))
          case atStart => exact ⟨0, by omega, by omega, rfl, HTG.out⟩
          case round =>
            clear HTG
            obtain ⟨k, hk, rfl, rfl, hT⟩ := hrel
            have HT := Lib.hid hT
            clear hT
            by_cases hkn : k < n
            · obtain ⟨g, off, B, t, fr, rfl, hg, hs, he, c0, c1⟩ := (HA.out.kept (below_then HB1.out HT.out.below)).at hkn
              obtain ⟨e1, e2⟩ := HT.out.cell (c := k) (by omega)
              rw [HGP.out k hkn] at e1
              have hyb := (hmay_at HM.out hkn).2
              have hkz : (k : Int) < n := by omega
              have hk64 : (k : Int) < 64 := by omega
              have HMK := Lib.hid (HMOST.out k hkn)
              have HMO := Lib.hid (fun i hi => HMONO.out k i hkn hi)
              obtain ⟨y, hy⟩ : ∃ y, y = Q k := ⟨_, rfl⟩
              obtain ⟨p, hp⟩ : ∃ p, p = P k := ⟨_, rfl⟩
              rw [← hy] at c1 hyb HMK HMO
              rw [← hp] at e1 HMK HMO
              have HPE2 := Lib.hid hp
              have wy : IntKind.i64.wrap (-y) = -y := by rw [IntKind.wrap_i64]; omega
              clear hs he c0 hg hy hp
              go_upto_region 27 with fail
              go_cut [118] from 113 to 118 (fun v118 wx => v118 = .bool false ∧ wx = wr)
              case first =>
                have hmk := HMK.out
                by_cases h0 : 0 < -y
                · rw [if_pos h0] at hmk
                  have h9 : ¬ -y ≤ 0 := by omega
                  have h1 : ¬ -y < (p : Int) := by omega
                  clear hmk
                  go_wp2_with fail
                  go_meet
                  exact ⟨by congr 1; rw [decide_eq_false_iff_not]; omega, rfl⟩
                · rw [if_neg h0] at hmk
                  obtain rfl : p = 0 := by omega
                  have h9 : -y ≤ 0 := by omega
                  clear hmk
                  go_wp2_with fail
                  go_meet
                  exact ⟨by congr 1; rw [decide_eq_false_iff_not]; omega, rfl⟩
              case rest =>
                obtain ⟨rfl, hwx⟩ := hcut
                obtain rfl := hwx
                clear c1 e1 e2 HMK
                go_wp2_with fail
                go_loopg [121] n (fun gh vi wy => ∃ i : Nat, i ≤ n ∧ gh = n - i ∧ vi = .int .i64 i ∧ TG w1 wy g8 (gt P n j))
                case atStart => exact ⟨0, by omega, by omega, rfl, HT.out⟩
                case round =>
                  clear HT
                  obtain ⟨i, hi, rfl, rfl, hT⟩ := hrel
                  have HT := Lib.hid hT
                  clear hT
                  by_cases hin : i < n
                  · obtain ⟨g', off', B, t, fr, e', hg, hs, he, c0, c1⟩ := (HA.out.kept (below_then HB1.out HT.out.below)).at hin
                    injection e' with e'; injection e' with e31 e32
                    subst e31; subst e32
                    obtain ⟨G, hG, hG2, hG3⟩ := HT.out.row
                    have e1 := hG3 k (by omega)
                    have e3 := hG3 i (by omega)
                    rw [HGP.out k hkn, ← HPE2.out] at e1
                    rw [HGP.out i hin] at e3
                    have hiz : (i : Int) < n := by omega
                    have hi64 : (i : Int) < 64 := by omega
                    have hub := (hmay_at HM.out hin).2
                    have hmo := HMO.out i hin
                    obtain ⟨u, hu⟩ : ∃ u, u = Q i := ⟨_, rfl⟩
                    rw [← hu] at c1 hmo hub
                    generalize P i = pi at *
                    have wu : IntKind.i64.wrap (-u) = -u := by rw [IntKind.wrap_i64]; omega
                    clear hs he c0 hg hu
                    go_upto_region 35 with fail
                    go_cut [148] from 137 to 148 (fun v148 wx => v148 = .bool false ∧ TG w1 wx g8 (gt P n j))
                    case first =>
                      have hg := hG
                      have hg2 := hG
                      by_cases h0 : -u < -y
                      · have h1 : ¬ (p : Int) < (pi : Int) := by have := hmo h0; omega
                        clear hmo c1
                        refine wp_region_below (by kernel_rfl) (by kernel_rfl) ?_
                        repeat (first | ((with_reducible apply q_skip); (case hw => rfl); (try simp only [Act.put, List.setIfInBounds_toArray, List.set_cons_zero, List.set_cons_succ])) | ((with_reducible apply q_val); (case hw => rfl); (case hv => intro wq hbq; have hcq := cellF (Yticdcdahehodkaa.kept hbq hg); have hcr := cellF (Yticdcdahehodkaa.kept hbq hg2); go_simp; try rfl); (try simp only [Act.put, List.setIfInBounds_toArray, List.set_cons_zero, List.set_cons_succ])))
                        refine q_nil ?_
                        intro w4 hb4
                        go_wp2_with fail
                        go_meet
                        exact ⟨rfl, HT.out.kept hb4⟩
                      · clear hmo c1
                        refine wp_region_below (by kernel_rfl) (by kernel_rfl) ?_
                        repeat (first | ((with_reducible apply q_skip); (case hw => rfl); (try simp only [Act.put, List.setIfInBounds_toArray, List.set_cons_zero, List.set_cons_succ])) | ((with_reducible apply q_val); (case hw => rfl); (case hv => intro wq hbq; have hcq := cellF (Yticdcdahehodkaa.kept hbq hg); have hcr := cellF (Yticdcdahehodkaa.kept hbq hg2); go_simp; try rfl); (try simp only [Act.put, List.setIfInBounds_toArray, List.set_cons_zero, List.set_cons_succ])))
                        refine q_nil ?_
                        intro w4 hb4
                        go_wp2_with fail
                        go_meet
                        exact ⟨rfl, HT.out.kept hb4⟩
                    case rest =>
                      obtain ⟨rfl, hTx⟩ := hcut
                      have HTX := Lib.hid hTx
                      clear hTx hG hG2 hG3 e1 e3 c1 hmo
                      go_wp2_with fail
                      go_roundg (n - (i + 1))
                      case measure => omega
                      case rel => exact ⟨i + 1, by omega, rfl, by go_num, HTX.out⟩
                  · obtain rfl : i = n := by omega
                    go_wp2_with fail
                    go_roundg (i - (k + 1))
                    case measure => omega
                    case rel => exact ⟨k + 1, by omega, rfl, by go_num, HT.out⟩
            · obtain rfl : k = n := by omega
              have HBF := Lib.hid (below_then HB1.out HT.out.below)
              clear HT
              have hs := HS0.out
              subst hs
              go_wp2_with (first | (go_at_call 11; (with_reducible refine (known14 _).mono ?_); rintro e w5 ⟨rfl, hb5⟩))
              go_ret
              exact ⟨rfl, below_then HBF.out hb5⟩
  · have HE := Lib.hid hE
    obtain ⟨te, hte⟩ : ∃ te, te = tE q n A Q := ⟨_, rfl⟩
    have hez : (te == 0) = false := by rw [beq_eq_false_iff_ne, hte]; exact hE
    rw [← hte] at c1
    clear hE hte
    go_enter Try.func4, Try.ntmps4
    go_wp2_with fail
    refine c1.mono ?_
    rintro e w1 ⟨⟨v, rfl, hv⟩, hb1⟩
    obtain rfl := hv.2 HE.out
    clear hv
    go_wp2_with (first | (go_at_call 11; (with_reducible refine (known14 _).mono ?_); rintro e w5 ⟨rfl, hb5⟩))
    go_ret
    exact ⟨rfl, below_then hb1 hb5⟩
theorem whole14_w (q : Int) (a : Option Addr) (n cap : Nat) (A Q : Nat → Int) (W : World) (hq : F64 q) (hb : ∀ i, (0 ≤ A i ∧ A i ≤ 4294967295) ∧ F64 (Q i)) (hA : Holds W a n A Q) (_ : n ≤ cap) (_ : cap ≤ 9223372036854775807) (_ : a = none → n = 0 ∧ cap = 0) :
    Calls Try.prog 4 #[.int .i64 q, .slice a n cap] W fun e W' => e = .returned (.bool true) ∧ Below W.heap.size W W' :=
  whole14_walk a n cap A Q q W hq hb hA
end Go.Proofs.Yticdcdahehodkaa
/-! Three rows of one's own side by side; who has won. No condition. -/
namespace Go.Proofs.Yticdcdahehodkaa
set_option linter.unusedVariables false
set_option linter.unusedSimpArgs false
open Go.RowKit

theorem info_i64r : ∃ i z, Try.prog.info? 2 = some i ∧ i.zero = some z ∧ i.size = 1 ∧ i.bytes ≤ 1000 ∧ z.cells.size = 1 := by
  obtain ⟨i, z, h1, h2, h3, h4, h5⟩ := info_i64
  exact ⟨i, z, h1, h2, h3, by omega, h5⟩
theorem info_intr : ∃ i z, Try.prog.info? 3 = some i ∧ i.zero = some z ∧ i.size = 1 ∧ i.bytes ≤ 1000 ∧ z.cells.size = 1 := by
  have h : (Try.prog.info? 3).map (fun i => (i.size, decide (i.bytes ≤ 1000), i.zero.map (·.cells.size))) = some (1, true, some 1) := by kernel_rfl
  cases hi : Try.prog.info? 3 with
  | none => simp [hi] at h
  | some i =>
    simp [hi] at h
    obtain ⟨h1, h2, z, h3, h4⟩ := h
    exact ⟨i, z, rfl, h3, h1, h2, h4⟩
def Sep (x y : Value) : Prop := ∀ q, x.ownBlock = some q → y.ownBlock ≠ some q
theorem Sep.symm {x y : Value} (h : Sep x y) : Sep y x := fun q h1 h2 => h q h2 h1
theorem Sep.ne {x y : Value} (h : Sep x y) : y.ownBlock = none ∨ y.ownBlock ≠ x.ownBlock := by
  cases e : y.ownBlock with
  | none => exact .inl rfl
  | some q => exact .inr (fun h2 => h q h2.symm e)
/-- three rows of one's own -/
structure LS (w : World) (b : Nat) (v7 v8 v9 : Value) (n7 n8 n9 : Nat) (L7 L8 L9 : List Value) : Prop where
  a7 : w.ownsRow b 2 1 v7 n7 L7
  a8 : w.ownsRow b 2 1 v8 n8 L8
  a9 : w.ownsRow b 3 1 v9 n9 L9
  s78 : Sep v7 v8
  s79 : Sep v7 v9
  s89 : Sep v8 v9
section
variable {w w' : World} {b : Nat} {v7 v8 v9 v' : Value} {n7 n8 n9 : Nat} {L7 L8 L9 L' : List Value}
theorem LS.kept (h : LS w b v7 v8 v9 n7 n8 n9 L7 L8 L9) (hb : Below w.heap.size w w') : LS w' b v7 v8 v9 n7 n8 n9 L7 L8 L9 :=
  ⟨own_below hb h.a7, own_below hb h.a8, own_below hb h.a9, h.s78, h.s79, h.s89⟩
theorem own_put {e : TypeId} {n : Nat} {v : Value} {L : List Value} {go : Nat} (h : w.ownsRow b e 1 v n L) (hg : w.grownBy w' (some go)) (hlt : go < b) : w'.ownsRow b e 1 v n L :=
  h.kept hg (by
    cases e9 : v.ownBlock with
    | none => exact .inl rfl
    | some q => exact .inr (fun h2 => by injection h2 with h2; have := (h.lt q e9).1; omega))
theorem LS.put (h : LS w b v7 v8 v9 n7 n8 n9 L7 L8 L9) {go : Nat} (hg : w.grownBy w' (some go)) (hlt : go < b) : LS w' b v7 v8 v9 n7 n8 n9 L7 L8 L9 :=
  ⟨own_put h.a7 hg hlt, own_put h.a8 hg hlt, own_put h.a9 hg hlt, h.s78, h.s79, h.s89⟩
theorem sep_new {x y : Value} {X : Obj} {e : TypeId} {n c : Nat} {L : List Value} (hs : Sep x y) (hy : w.ownsRow b e c y n L) (hat : ∀ q, v'.ownBlock = some q → x.ownBlock = some q ∨ w.heap.size < q) : Sep v' y := fun q h1 h2 => by
  rcases hat q h1 with h3 | h3
  · exact hs q h3 h2
  · have := (hy.lt q h2).2; omega
theorem LS.app7 (h : LS w b v7 v8 v9 n7 n8 n9 L7 L8 L9) {X : Obj} {m : Nat} (ho : w'.ownsRow b 2 1 v' m L') (hg : (w.alloc X).grownBy w' v7.ownBlock) (hat : ∀ q, v'.ownBlock = some q → v7.ownBlock = some q ∨ w.heap.size < q) :
    LS w' b v' v8 v9 m n8 n9 L' L8 L9 :=
  ⟨ho, (h.a8.alloc X).kept hg h.s78.ne, (h.a9.alloc X).kept hg h.s79.ne, sep_new (X := X) h.s78 h.a8 hat, sep_new (X := X) h.s79 h.a9 hat, h.s89⟩
theorem LS.app8 (h : LS w b v7 v8 v9 n7 n8 n9 L7 L8 L9) {X : Obj} {m : Nat} (ho : w'.ownsRow b 2 1 v' m L') (hg : (w.alloc X).grownBy w' v8.ownBlock) (hat : ∀ q, v'.ownBlock = some q → v8.ownBlock = some q ∨ w.heap.size < q) :
    LS w' b v7 v' v9 n7 m n9 L7 L' L9 :=
  ⟨(h.a7.alloc X).kept hg h.s78.symm.ne, ho, (h.a9.alloc X).kept hg h.s89.ne, (sep_new (X := X) h.s78.symm h.a7 hat).symm, h.s79, sep_new (X := X) h.s89 h.a9 hat⟩
theorem LS.app9 (h : LS w b v7 v8 v9 n7 n8 n9 L7 L8 L9) {X : Obj} {m : Nat} (ho : w'.ownsRow b 3 1 v' m L') (hg : (w.alloc X).grownBy w' v9.ownBlock) (hat : ∀ q, v'.ownBlock = some q → v9.ownBlock = some q ∨ w.heap.size < q) :
    LS w' b v7 v8 v' n7 n8 m L7 L8 L' :=
  ⟨(h.a7.alloc X).kept hg h.s79.symm.ne, (h.a8.alloc X).kept hg h.s89.symm.ne, ho, h.s78, (sep_new (X := X) h.s79.symm h.a7 hat).symm, (sep_new (X := X) h.s89.symm h.a8 hat).symm⟩
end
/-- the i-th of those who have won -/
def atF (V : Nat → Int) : Nat → Nat → Nat
  | 0 => fun _ => 0
  | k + 1 => if 0 < V k then put (atF V k) (tm (wts V) k) k else atF V k
/-- how many have won -/
def wn (V : Nat → Int) (k : Nat) : Nat := tm (wts V) k
theorem wn_succ (V : Nat → Int) (k : Nat) : wn V (k + 1) = wn V k + (if 0 < V k then 1 else 0) := by
  unfold wn; rw [tm_succ]
  have e : (0 < wts V k) ↔ (0 < V k) := by unfold wts; omega
  simp only [e]
theorem wn_le (V : Nat → Int) (k : Nat) : wn V k ≤ k := cnt_le _ _
theorem atF_at {V : Nat → Int} : ∀ k i, i < k → 0 < V i → atF V k (wn V i) = i
  | 0, i, h, _ => by omega
  | k + 1, i, h, hp => by
    show (if 0 < V k then put (atF V k) (tm (wts V) k) k else atF V k) (wn V i) = i
    by_cases e : i = k
    · subst e; rw [if_pos hp]; exact put_at _ _ _
    · have hlt : wn V i < wn V k := tm_lt (show i < k by omega) (by unfold wts; omega)
      split
      · rw [put_ne _ _ (by unfold wn at hlt ⊢; omega)]; exact atF_at k i (by omega) hp
      · exact atF_at k i (by omega) hp
theorem atF_lt {V : Nat → Int} : ∀ k j, j < wn V k → atF V k j < k ∧ 0 < V (atF V k j) ∧ wn V (atF V k j) = j
  | 0, j, h => by simp [wn, tm, cnt, sumN] at h
  | k + 1, j, h => by
    rw [wn_succ] at h
    show (if 0 < V k then put (atF V k) (tm (wts V) k) k else atF V k) j < k + 1 ∧ 0 < V ((if 0 < V k then put (atF V k) (tm (wts V) k) k else atF V k) j) ∧ wn V ((if 0 < V k then put (atF V k) (tm (wts V) k) k else atF V k) j) = j
    by_cases hp : 0 < V k
    · rw [if_pos hp] at h ⊢
      by_cases e : j = wn V k
      · have e2 : put (atF V k) (tm (wts V) k) k j = k := by rw [e]; exact put_at _ _ _
        rw [e2]; exact ⟨by omega, hp, e.symm⟩
      · rw [put_ne _ _ (show j ≠ tm (wts V) k from e)]
        obtain ⟨h1, h2, h3⟩ := atF_lt (V := V) k j (by omega)
        exact ⟨by omega, h2, h3⟩
    · rw [if_neg hp] at h ⊢
      obtain ⟨h1, h2, h3⟩ := atF_lt (V := V) k j (by omega)
      exact ⟨by omega, h2, h3⟩
/-- sums over those who have won -/
theorem won_sum {V : Nat → Int} {f : Nat → Nat} (n : Nat) (h0 : ∀ i, i < n → ¬ 0 < V i → f i = 0) : ∀ k, k ≤ n → sumN (fun j => f (atF V n j)) (wn V k) = sumN f k
  | 0, _ => rfl
  | k + 1, hk => by
    have ih := won_sum n h0 k (by omega)
    rw [wn_succ]
    by_cases hp : 0 < V k
    · rw [if_pos hp]
      show sumN (fun j => f (atF V n j)) (wn V k) + f (atF V n (wn V k)) = sumN f k + f k
      rw [ih, atF_at n k (by omega) hp]
    · rw [if_neg hp]
      show sumN (fun j => f (atF V n j)) (wn V k) = sumN f k + f k
      rw [ih, h0 k (by omega) hp]; rfl
theorem won_mono {V : Nat → Int} {n i j : Nat} (hi : i < wn V n) (hj : j < wn V n) : (i < j ↔ atF V n i < atF V n j) := by
  obtain ⟨h1, h2, h3⟩ := atF_lt (V := V) n i hi
  obtain ⟨g1, g2, g3⟩ := atF_lt (V := V) n j hj
  constructor
  · intro h
    exact tm_inc (P := wts V) (by have h3' : tm (wts V) (atF V n i) = i := h3; have g3' : tm (wts V) (atF V n j) = j := g3; omega)
  · intro h
    have := tm_lt (P := wts V) h (by unfold wts; omega)
    have h3' : tm (wts V) (atF V n i) = i := h3
    have g3' : tm (wts V) (atF V n j) = j := g3
    omega
/-- a split among those who have won is the split among all -/
theorem prt_won {V : Nat → Int} {n T j : Nat} (hS : 0 < sumN (wts V) n) (hj : j < wn V n) : prt (fun j => wts V (atF V n j)) (wn V n) T j = prt (wts V) n T (atF V n j) := by
  have hz : ∀ i, i < n → ¬ 0 < V i → wts V i = 0 := fun i _ h => by unfold wts; omega
  have es : sumN (fun j => wts V (atF V n j)) (wn V n) = sumN (wts V) n := won_sum n hz n (Nat.le_refl _)
  have ef : ∀ j, flo (fun j => wts V (atF V n j)) (wn V n) T j = flo (wts V) n T (atF V n j) := fun j => by unfold flo; simp only; rw [es]
  have er : ∀ j, res (fun j => wts V (atF V n j)) (wn V n) T j = res (wts V) n T (atF V n j) := fun j => by unfold res; simp only; rw [es]
  have el : lef (fun j => wts V (atF V n j)) (wn V n) T = lef (wts V) n T := by
    unfold lef
    rw [sumN_congr (V := fun j => flo (wts V) n T (atF V n j)) _ (fun i _ => ef i), won_sum (f := flo (wts V) n T) n (fun i hi h => by unfold flo; rw [hz i hi h]; simp) n (Nat.le_refl _)]
  obtain ⟨h1, h2, h3⟩ := atF_lt (V := V) n j hj
  unfold prt
  rw [ef, el]
  congr 2
  by_cases hr : 0 < res (wts V) n T (atF V n j)
  · have e : rk (rkey (fun j => wts V (atF V n j)) (wn V n) T) (wn V n) j = rk (rkey (wts V) n T) n (atF V n j) := by
      rw [rk_eq, rk_eq]
      have hc := won_sum (V := V) (f := fun i => b01 (decide (rkey (wts V) n T i < rkey (wts V) n T (atF V n j) ∨ (rkey (wts V) n T i = rkey (wts V) n T (atF V n j) ∧ i < atF V n j)))) n (fun i hi h => by
        have e0 : res (wts V) n T i = 0 := by unfold res; rw [hz i hi h]; simp
        rw [decide_eq_false (by unfold rkey; rw [e0]; omega)]; rfl) n (Nat.le_refl _)
      unfold cnt
      rw [← hc]
      refine sumN_congr _ fun i hi => ?_
      congr 1
      rw [decide_eq_decide]
      unfold rkey
      rw [er, er]
      have := won_mono (V := V) hi hj
      omega
    rw [e]
  · rw [decide_eq_false (fun h => hr (more_rest hS h1 h))]
    have hS' : 0 < sumN (fun j => wts V (atF V n j)) (wn V n) := by rw [es]; exact hS
    rw [decide_eq_false (fun h => hr (by rw [← er]; exact more_rest hS' hj (by rw [el]; exact h)))]
end Go.Proofs.Yticdcdahehodkaa
