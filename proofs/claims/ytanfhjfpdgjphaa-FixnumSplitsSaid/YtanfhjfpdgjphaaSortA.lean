/- slices' swapRangeCmpFunc and rotateCmpFunc at ints: what they make of a row in a block of its own. Condition: the places lie within the row. -/
import Derived.Test.YtanfhjfpdgjphaaSrt
import Derived.Test.YtanfhjfpdgjphaaQuiet
import Derived.Deep.LoopGhost
namespace Go.Proofs.Ytanfhjfpdgjphaa
set_option linter.unusedVariables false
set_option linter.unusedSimpArgs false
open Go.RowKit


/-- in w0's block blk stand, in place of the row, the numbers d 0 .. d (n-1); all else of w0 is as it was -/
structure RowI (w0 w : World) (blk n : Nat) (d : Nat → Nat) : Prop where
  fr : w0.grownBy w (some blk)
  row : ∃ A, w.heap[blk]? = some (.cells A 3 (0, 0)) ∧ n ≤ A.size ∧ ∀ k, k < n → A[k]? = some (.int .i64 (d k))
  lt : ∀ k, k < n → d k < n
  sz : n < 1000000000000
theorem RowI.cell {w0 w : World} {blk n : Nat} {d : Nat → Nat} (h : RowI w0 w blk n d) : ∀ k, k < n → w.cell? ⟨blk, k, none⟩ = some (.int .i64 (d k)) ∧ w.frozen? ⟨blk, k, none⟩ = false := fun k hk => by
  obtain ⟨A, h1, h2, h3⟩ := h.row
  obtain ⟨c, f, _⟩ := cells_of h1
  rw [c, f, h3 k hk]; exact ⟨rfl, rfl⟩
theorem RowI.drew {w0 w : World} {blk n : Nat} {d : Nat → Nat} (h : RowI w0 w blk n d) : RowI w0 w.drew blk n d := ⟨⟨h.fr.os, h.fr.tape, h.fr.output, h.fr.size, h.fr.block⟩, h.row, h.lt, h.sz⟩
theorem RowI.below {w0 w w' : World} {blk n : Nat} {d : Nat → Nat} (h : RowI w0 w blk n d) (hb : Below w.heap.size w w') : RowI w0 w' blk n d := by
  obtain ⟨A, h1, h2, h3⟩ := h.row
  exact ⟨h.fr.trans ⟨hb.os, hb.tape, hb.output, hb.size, fun k hk _ => hb.block k hk⟩, ⟨A, Ytanfhjfpdgjphaa.kept hb h1, h2, h3⟩, h.lt, h.sz⟩
theorem RowI.swap {w0 w w' : World} {blk n p q : Nat} {d : Nat → Nat} (h : RowI w0 w blk n d) (hp : p < n) (hq : q < n)
    (hw : w' = (w.setCell ⟨blk, p, none⟩ (.int .i64 (d q))).setCell ⟨blk, q, none⟩ (.int .i64 (d p))) : RowI w0 w' blk n (swp d p q) := by
  subst hw
  obtain ⟨A, h1, h2, h3⟩ := h.row
  refine ⟨h.fr.trans ((set_grown _ _ _ _).trans (set_grown _ _ _ _)), ⟨_, heap_set (heap_set h1), by simpa using h2, fun k hk => ?_⟩, fun k hk => ?_, h.sz⟩
  · unfold swp
    by_cases e : k = q
    · subst e
      rw [Array.getElem?_setIfInBounds_self_of_lt (by simp; omega)]
      by_cases e2 : k = p
      · subst e2; rw [if_pos rfl]
      · rw [if_neg e2, if_pos rfl]
    · rw [Array.getElem?_setIfInBounds_ne (by omega), if_neg e]
      by_cases e2 : k = p
      · subst e2; rw [if_pos rfl, Array.getElem?_setIfInBounds_self_of_lt (by omega)]
      · rw [if_neg e2, Array.getElem?_setIfInBounds_ne (by omega)]; exact h3 k hk
  · unfold swp
    split
    · exact h.lt q hq
    · split
      · exact h.lt p hp
      · exact h.lt k hk
theorem RowI.congr {w0 w : World} {blk n : Nat} {d d' : Nat → Nat} (h : RowI w0 w blk n d) (e : d = d') : RowI w0 w blk n d' := e ▸ h
/-- the cells that an exchange reads and writes -/
theorem RowI.two {w0 w : World} {blk n p q : Nat} {d : Nat → Nat} (h : RowI w0 w blk n d) (hp : p < n) (hq : q < n) (v : Value) :
    (w.cell? ⟨blk, p, none⟩ = some (.int .i64 (d p)) ∧ w.cell? ⟨blk, q, none⟩ = some (.int .i64 (d q))) ∧ (w.frozen? ⟨blk, p, none⟩ = false ∧ w.frozen? ⟨blk, q, none⟩ = false) ∧
    ∃ u, (w.setCell ⟨blk, p, none⟩ v).cell? ⟨blk, q, none⟩ = some u := by
  obtain ⟨A, h1, h2, h3⟩ := h.row
  obtain ⟨c, f, _⟩ := cells_of h1
  obtain ⟨c2, _, _⟩ := cells_of (heap_set (i := p) (v := v) h1)
  refine ⟨⟨(h.cell p hp).1, (h.cell q hq).1⟩, ⟨f _, f _⟩, ?_⟩
  have : q < (A.setIfInBounds p v).size := by simp; omega
  exact ⟨_, (c2 q).trans (Array.getElem?_eq_getElem this)⟩
theorem wrapN {n : Nat} {z : Int} (hz : z = (n : Int)) (h : n < 2000000000000) : IntKind.i64.wrap z = (n : Int) := by rw [IntKind.wrap_i64]; omega

set_option maxHeartbeats 2000000 in
/-- two stretches of k numbers, from a on and from b on, change places -/
theorem swapr_any (blk n cap a b k : Nat) (d : Nat → Nat) (fv : Value) (w0 w : World) (hR : RowI w0 w blk n d) (hab : a + k ≤ b) (hb : b + k ≤ n) :
    Calls Try.prog 59 #[.slice (some ⟨blk, 0, none⟩) n cap, .int .i64 a, .int .i64 b, .int .i64 k, fv] w fun e w' => e = .returned (.tuple #[]) ∧ RowI w0 w' blk n (swr d a b k) := by
  have hsz := hR.sz
  have H0 := Lib.hid hR
  clear hR
  go_enter Try.func59, Try.ntmps59
  go_wp2
  go_loopg [10] k (fun gh vi wr => ∃ i : Nat, i ≤ k ∧ gh = k - i ∧ vi = .int .i64 i ∧ RowI w0 wr blk n (swr d a b i))
  case atStart => exact ⟨0, by omega, by omega, rfl, by rw [swr_zero]; exact H0.out⟩
  case round =>
    obtain ⟨i, hi, rfl, rfl, hRi⟩ := hrel
    by_cases hlt : i < k
    · obtain ⟨p, hp⟩ : ∃ p, p = a + i := ⟨_, rfl⟩
      obtain ⟨q, hq⟩ : ∃ q, q = b + i := ⟨_, rfl⟩
      have wp1 := wrapN (z := (a : Int) + (i : Int)) (n := p) (by omega) (by omega)
      have wq1 := wrapN (z := (b : Int) + (i : Int)) (n := q) (by omega) (by omega)
      have wi1 := wrapN (z := (i : Int) + 1) (n := i + 1) (by omega) (by omega)
      have hpn : (p : Int) < (n : Int) := by omega
      have hqn : (q : Int) < (n : Int) := by omega
      have hik : (i : Int) < (k : Int) := by omega
      obtain ⟨⟨c1, c2⟩, ⟨f1, f2⟩, u, c3⟩ := hRi.two (p := p) (q := q) (by omega) (by omega) (.int .i64 (swr d a b i q))
      have HR := Lib.hid hRi
      clear hRi
      have HS := Lib.hid (show swp (swr d a b i) p q = swr d a b (i + 1) by rw [hp, hq]; exact swr_next (by omega))
      have HPQ := Lib.hid (show p < n ∧ q < n by omega)
      clear hp hq
      generalize hd' : swr d a b i = d' at *
      clear hd'
      go_wp2
      go_region
      go_wp2
      go_roundg (k - (i + 1))
      case measure => omega
      case rel => exact ⟨i + 1, by omega, rfl, by go_num, (HR.out.swap HPQ.out.1 HPQ.out.2 rfl).drew.congr HS.out⟩
    · obtain rfl : i = k := by omega
      have HR := Lib.hid hRi
      clear hRi
      go_wp2
      (try simp only [Exit.inBlock, Exit.then]); first | go_end0 | refine bodyPost_ret (results_none rfl _ _ _) rfl ?_
      exact ⟨rfl, HR.out⟩

theorem swapr_at (blk n cap a b k : Nat) (za zb zk : Int) (d : Nat → Nat) (fv : Value) (w0 w : World) (ea : za = a) (eb : zb = b) (ek : zk = k) (hR : RowI w0 w blk n d) (hab : a + k ≤ b) (hb : b + k ≤ n) :
    Calls Try.prog 59 #[.slice (some ⟨blk, 0, none⟩) n cap, .int .i64 za, .int .i64 zb, .int .i64 zk, fv] w fun e w' => e = .returned (.tuple #[]) ∧ RowI w0 w' blk n (swr d a b k) := by
  subst ea; subst eb; subst ek; exact swapr_any blk n cap a b k d fv w0 w hR hab hb

set_option maxHeartbeats 2000000 in
/-- what stands from m on comes ahead of what stands from a on -/
theorem rotate_any (blk n cap a m b : Nat) (d : Nat → Nat) (fv : Value) (w0 w : World) (hR : RowI w0 w blk n d) (h1 : a < m) (h2 : m < b) (hb : b ≤ n) :
    Calls Try.prog 58 #[.slice (some ⟨blk, 0, none⟩) n cap, .int .i64 a, .int .i64 m, .int .i64 b, fv] w fun e w' => e = .returned (.tuple #[]) ∧ RowI w0 w' blk n (rot a m b d) := by
  have hsz := hR.sz
  have C := Lib.hid (fun (x y k : Nat) (dk : Nat → Nat) (wr : World) (zx zy zk : Int) => swapr_at blk n cap x y k zx zy zk dk fv w0 wr)
  have H0 := Lib.hid hR
  clear hR
  have hw0 := wrapN (z := (m : Int) - (a : Int)) (n := m - a) (by omega) (by omega)
  have hw1 := wrapN (z := (b : Int) - (m : Int)) (n := b - m) (by omega) (by omega)
  have HI := Lib.hid (show 0 < m - a ∧ m - a ≤ m ∧ 0 < b - m ∧ m + (b - m) ≤ n ∧ rot (m - (m - a)) m (m + (b - m)) d = rot a m b d from by
    refine ⟨by omega, by omega, by omega, by omega, ?_⟩
    rw [show m - (m - a) = a by omega, show m + (b - m) = b by omega])
  obtain ⟨i0, hi0⟩ : ∃ i0, i0 = m - a := ⟨_, rfl⟩
  obtain ⟨j0, hj0⟩ : ∃ j0, j0 = b - m := ⟨_, rfl⟩
  rw [← hi0] at hw0
  rw [← hj0] at hw1
  rw [← hi0, ← hj0] at HI
  have hmn : m ≤ n := by omega
  clear hi0 hj0 h1 h2 hb
  go_enter Try.func58, Try.ntmps58
  go_wp2
  go_loopg [10, 11] (i0 + j0) (fun gh vi vj wr => ∃ (i j : Nat) (dk : Nat → Nat), gh = i + j ∧ vi = .int .i64 i ∧ vj = .int .i64 j ∧ 0 < i ∧ i ≤ m ∧ 0 < j ∧ m + j ≤ n ∧ rot (m - i) m (m + j) dk = rot a m b d ∧ RowI w0 wr blk n dk)
  case atStart => obtain ⟨q1, q2, q3, q4, q5⟩ := HI.out; exact ⟨i0, j0, d, rfl, rfl, rfl, q1, q2, q3, q4, q5, H0.out⟩
  case round =>
    obtain ⟨i, j, dk, rfl, rfl, rfl, q1, q2, q3, q4, q5, hRk⟩ := hrel
    have HE := Lib.hid q5
    have HR := Lib.hid hRk
    clear q5 hRk HI H0
    rcases Nat.lt_trichotomy i j with h | rfl | h
    · have d1 : decide ((i : Int) = (j : Int)) = false := by rw [decide_eq_false_iff_not]; omega
      have d2 : decide ((j : Int) < (i : Int)) = false := by rw [decide_eq_false_iff_not]; omega
      have w1 := wrapN (z := (m : Int) - (i : Int)) (n := m - i) (by omega) (by omega)
      have w2 := wrapN (z := (m : Int) + (j : Int)) (n := m + j) (by omega) (by omega)
      have w3 := wrapN (z := ((m + j : Nat) : Int) - (i : Int)) (n := m + j - i) (by omega) (by omega)
      have w4 := wrapN (z := (j : Int) - (i : Int)) (n := j - i) (by omega) (by omega)
      have c := C.out (m - i) (m + j - i) i dk
      go_wp2_with (first | (go_at_call 59; (with_reducible refine (c _ _ _ _ (by omega) (by omega) (by omega) HR.out (by omega) (by omega)).mono ?_); rintro e wx ⟨rfl, hx⟩))
      go_roundg (i + (j - i))
      case measure => omega
      case rel => exact ⟨i, j - i, _, rfl, by go_num, by go_num, q1, q2, by omega, by omega, (rot_less dk q2 h).trans HE.out, hx⟩
    · have d1 : decide ((i : Int) = (i : Int)) = true := by rw [decide_eq_true_iff]
      have c := C.out (m - i) m i dk
      go_wp2_with (first | (go_at_call 59; (with_reducible refine (c _ _ _ _ (by omega) (by omega) (by omega) HR.out (by omega) (by omega)).mono ?_); rintro e wx ⟨rfl, hx⟩))
      (try simp only [Exit.inBlock, Exit.then]); first | go_end0 | refine bodyPost_ret (results_none rfl _ _ _) rfl ?_
      exact ⟨rfl, hx.congr ((rot_same dk q2).trans HE.out)⟩
    · have d1 : decide ((i : Int) = (j : Int)) = false := by rw [decide_eq_false_iff_not]; omega
      have d2 : decide ((j : Int) < (i : Int)) = true := by rw [decide_eq_true_iff]; omega
      have w4 := wrapN (z := (i : Int) - (j : Int)) (n := i - j) (by omega) (by omega)
      have c := C.out (m - i) m j dk
      go_wp2_with (first | (go_at_call 59; (with_reducible refine (c _ _ _ _ (by omega) (by omega) (by omega) HR.out (by omega) (by omega)).mono ?_); rintro e wx ⟨rfl, hx⟩))
      go_roundg (i - j + j)
      case measure => omega
      case rel =>
        have e := rot_more dk q2 h
        rw [show m - i + j = m - (i - j) by omega] at e
        exact ⟨i - j, j, _, rfl, by go_num, by go_num, by omega, by omega, q3, q4, e.trans HE.out, hx⟩
end Go.Proofs.Ytanfhjfpdgjphaa
