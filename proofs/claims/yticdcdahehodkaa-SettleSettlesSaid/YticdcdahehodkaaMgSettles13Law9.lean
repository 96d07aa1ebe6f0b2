/- Texts that Settles13Law stands on, one behind the other, part 9. Conditions: each theorem names its own. -/
import Derived.Test.YticdcdahehodkaaMgSettles13Law8
import Derived.Laws.MakeOwn
import Derived.Laws.EntriesVeiled
import Derived.DeepKeys
import Derived.Laws.StructEq
import Derived.Great.BuildSlice
/-! fixnum's Split: the parts of any total by any weights, or why there are none. Condition: the numbers fit their kinds. -/
namespace Go.Proofs.Yticdcdahehodkaa
set_option linter.unusedVariables false
set_option linter.unusedSimpArgs false
open Go.RowKit

theorem mk_row (t e : TypeId) (k : IntKind) (n : Nat) (ht : Try.prog.underlying t = some (.slice e)) (hi : (Try.prog.info? e).map (fun i => (i.zero, i.size, i.bytes)) = some (some (.int k 0), 1, 8)) (hn : n ≤ 100000) :
    ∃ R : Array Value, R.size = n ∧ (∀ i, i < n → R[i]? = some (.int k 0)) ∧ ∀ w, (Instr.makeSlice t (.int .i64 (n : Int)) (.int .i64 (n : Int))).run Try.prog w = .ok (.slice (some ⟨w.heap.size, 0, none⟩) n n) (w.alloc (.cells R e)) := by
  cases h : Try.prog.info? e with
  | none => simp [h] at hi
  | some i =>
    simp [h] at hi
    obtain ⟨h1, h2, h3⟩ := hi
    refine ⟨madeCells (Value.int k 0).cells n, size_madeCells _ _, fun j hj => ?_, fun w => ?_⟩
    · unfold madeCells
      rw [Array.getElem?_map, show (Array.range n)[j]? = some j by simp [hj]]
      simp [Value.cells, Nat.mod_one]
    · have := run_make (P := Try.prog) w t e i _ ht h h1 .i64 .i64 n n (by omega) (by omega) (by rw [h3]; omega) (by omega)
      simpa [h2] using this

/-- the error of a split -/
def splE (Z : Nat → Int) (n : Nat) (T : Int) : Int :=
  if 1000 < n then 3 else if T < 0 ∨ ∃ i, i < n ∧ Z i < 0 then 2 else if fitB (sumZ Z n) = false then 6 else if T = 0 then 0 else if sumZ Z n = 0 then 10 else 0
def wts (Z : Nat → Int) : Nat → Nat := fun i => (Z i).toNat
def splP (Z : Nat → Int) (n : Nat) (T : Int) (i : Nat) : Nat := prt (wts Z) n T.toNat i
/-- the row of a split's parts, in a block that was not there before -/
def SplV (Z : Nat → Int) (n : Nat) (T : Int) (s : Nat) (w' : World) (v : Value) : Prop :=
  (splE Z n T = 0 → ∃ g P, v = .slice (some ⟨g, 0, none⟩) n n ∧ s ≤ g ∧ w'.heap[g]? = some (.cells P 2 (0, 0)) ∧ P.size = n ∧ ∀ i, i < n → P[i]? = some (.int .i64 (splP Z n T i : Nat))) ∧ (splE Z n T ≠ 0 → v = .slice none 0 0)
def SplC (a : Option Addr) (n cap : Nat) (Z : Nat → Int) (T : Int) (w : World) : Prop :=
  Calls Try.prog 23 #[.int .i64 T, .slice a n cap] w fun e w' => (∃ v, e = .returned (.tuple #[v, .int .i64 (splE Z n T)]) ∧ SplV Z n T w.heap.size w' v) ∧ Below w.heap.size w w'
theorem wts_sum {Z : Nat → Int} : ∀ n, (∀ i, i < n → 0 ≤ Z i) → sumZ Z n = (sumN (wts Z) n : Nat)
  | 0, _ => rfl
  | n + 1, h => by
    show sumZ Z n + Z n = ((sumN (wts Z) n + wts Z n : Nat) : Int)
    have e := h n (by omega)
    rw [wts_sum n (fun i hi => h i (by omega))]
    unfold wts; omega

set_option maxRecDepth 100000 in
set_option maxHeartbeats 2000000 in
theorem split_long (a : Option Addr) (n cap : Nat) (Z : Nat → Int) (T : Int) (w : World) (hn : 1000 < n) : SplC a n cap Z T w := by
  have he : splE Z n T = 3 := by unfold splE; rw [if_pos hn]
  unfold SplC
  rw [he]
  have hni : (1000 : Int) < n := by omega
  have HE := Lib.hid he
  clear he
  go_enter Try.func23, Try.ntmps23
  go_wp2
  go_ret2
  exact ⟨⟨_, rfl, fun h => by rw [HE.out] at h; omega, fun _ => rfl⟩, Below.refl _ _⟩

set_option maxRecDepth 100000 in
set_option maxHeartbeats 2000000 in
theorem split_neg (a : Option Addr) (n cap : Nat) (Z : Nat → Int) (T : Int) (w : World) (hn : n ≤ 1000) (hA : Ints w a n Z) (h : T < 0 ∨ ∃ i, i < n ∧ Z i < 0) : SplC a n cap Z T w := by
  have he : splE Z n T = 2 := by unfold splE; rw [if_neg (by omega), if_pos h]
  have c := has_any a n cap Z w hA (by omega)
  unfold SplC
  rw [he]
  have hni : ¬ (1000 : Int) < n := by omega
  have HE := Lib.hid he
  clear he hA
  by_cases hT : T < 0
  · clear h c
    go_enter Try.func23, Try.ntmps23
    go_wp2
    go_ret2
    exact ⟨⟨_, rfl, fun h => by rw [HE.out] at h; omega, fun _ => rfl⟩, Below.refl _ _⟩
  · have HX := Lib.hid (h.resolve_left hT)
    clear h
    go_enter Try.func23, Try.ntmps23
    go_wp2_with (first | (go_at_call 31; (with_reducible refine (c).mono ?_); rintro e w1 ⟨⟨b, rfl, hb⟩, rfl⟩; obtain rfl := hb.2 HX.out; clear hb))
    go_ret2
    exact ⟨⟨_, rfl, fun h => by rw [HE.out] at h; omega, fun _ => rfl⟩, Below.refl _ _⟩

set_option maxRecDepth 100000 in
set_option maxHeartbeats 2000000 in
theorem split_over (a : Option Addr) (n cap : Nat) (Z : Nat → Int) (T : Int) (w : World) (hn : n ≤ 1000) (hF : ∀ i, F64 (Z i)) (hA : Ints w a n Z) (hT : 0 ≤ T) (hP : ∀ i, i < n → 0 ≤ Z i) (ho : fitB (sumZ Z n) = false) : SplC a n cap Z T w := by
  have c := has_any a n cap Z w hA (by omega)
  have cm := fsum_any a n cap Z w hF hA (by omega)
  have hT0 : ¬ T < 0 := by omega
  have hni : ¬ (1000 : Int) < n := by omega
  have HX := Lib.hid (show ¬ ∃ i, i < n ∧ Z i < 0 from fun ⟨i, h1, h2⟩ => by have := hP i h1; omega)
  have he : splE Z n T = 6 := by unfold splE; rw [if_neg (by omega), if_neg (fun h => h.elim (by omega) HX.out), if_pos ho]
  have hb : fitE (sumZ Z n) = 6 := by
    have : ¬ (-9223372036854775808 ≤ sumZ Z n ∧ sumZ Z n ≤ 9223372036854775807) := fun h => by rw [(fit_yes h).1] at ho; cases ho
    exact (fit_no this).2.2
  rw [hb] at cm
  unfold SplC
  rw [he]
  have HE := Lib.hid he
  clear he hA hF hP ho hb
  generalize fitN (sumZ Z n) = m at *
  go_enter Try.func23, Try.ntmps23
  go_wp2_with (first | (go_at_call 31; (with_reducible refine (c).mono ?_); rintro e w1 ⟨⟨b, rfl, hb⟩, rfl⟩; obtain rfl : b = false := (by cases b; rfl; exact absurd (hb.1 rfl) HX.out); clear hb) | (go_at_call 26; (with_reducible refine (cm).mono ?_); rintro e w1 ⟨rfl, rfl⟩))
  go_ret2
  exact ⟨⟨_, rfl, fun h => by rw [HE.out] at h; omega, fun _ => rfl⟩, Below.refl _ _⟩

set_option maxRecDepth 100000 in
set_option maxHeartbeats 2000000 in
theorem split_zero (a : Option Addr) (n cap : Nat) (Z : Nat → Int) (w : World) (hn : n ≤ 1000) (hF : ∀ i, F64 (Z i)) (hA : Ints w a n Z) (hP : ∀ i, i < n → 0 ≤ Z i) (hv : -9223372036854775808 ≤ sumZ Z n ∧ sumZ Z n ≤ 9223372036854775807) : SplC a n cap Z 0 w := by
  obtain ⟨T, hT⟩ : ∃ T : Int, T = 0 := ⟨0, rfl⟩
  have c := has_any a n cap Z w hA (by omega)
  have cm := fsum_any a n cap Z w hF hA (by omega)
  have hT0 : ¬ T < 0 := by omega
  have hni : ¬ (1000 : Int) < n := by omega
  have HX := Lib.hid (show ¬ ∃ i, i < n ∧ Z i < 0 from fun ⟨i, h1, h2⟩ => by have := hP i h1; omega)
  clear hT0
  have hb := fit_yes (v := sumZ Z n) hv
  have hE : fitB (sumZ Z n) ≠ false := by rw [hb.1]; simp
  rw [hb.2.1, hb.2.2] at cm
  obtain ⟨R, r1, r2, hmk⟩ := mk_row 48 2 .i64 n Try.underlying48 (by kernel_rfl) (by omega)
  have HR := Lib.hid (And.intro r1 r2)
  clear r1 r2
  have he : splE Z n 0 = 0 := by unfold splE; rw [if_neg (by omega), if_neg (fun h => h.elim (by omega) HX.out), if_neg hE, if_pos rfl]
  unfold SplC
  rw [he]
  have HE := Lib.hid he
  clear he hA hF hP hb hE hT hv
  generalize sumZ Z n = m at *
  go_enter Try.func23, Try.ntmps23
  go_wp2_with (first | (go_at_call 31; (with_reducible refine (c).mono ?_); rintro e w1 ⟨⟨b, rfl, hb⟩, rfl⟩; obtain rfl : b = false := (by cases b; rfl; exact absurd (hb.1 rfl) HX.out); clear hb) | (go_at_call 26; (with_reducible refine (cm).mono ?_); rintro e w1 ⟨rfl, rfl⟩))
  go_ret2
  exact ⟨⟨_, rfl, fun _ => ⟨_, R, rfl, Nat.le_refl _, heap_alloc_new _ _, HR.out.1, fun i hi => by rw [HR.out.2 i hi, show splP Z n 0 i = 0 from prt_zero _ _ _]; rfl⟩, fun h => absurd HE.out h⟩, below_new _ _⟩

set_option maxRecDepth 100000 in
set_option maxHeartbeats 2000000 in
theorem split_none (a : Option Addr) (n cap : Nat) (Z : Nat → Int) (T : Int) (w : World) (hn : n ≤ 1000) (hF : ∀ i, F64 (Z i)) (hA : Ints w a n Z) (hT : 0 ≤ T) (hz : T ≠ 0) (hP : ∀ i, i < n → 0 ≤ Z i) (h0 : sumZ Z n = 0) : SplC a n cap Z T w := by
  have c := has_any a n cap Z w hA (by omega)
  have cm := fsum_any a n cap Z w hF hA (by omega)
  have hT0 : ¬ T < 0 := by omega
  have hni : ¬ (1000 : Int) < n := by omega
  have HX := Lib.hid (show ¬ ∃ i, i < n ∧ Z i < 0 from fun ⟨i, h1, h2⟩ => by have := hP i h1; omega)
  have hb := fit_yes (v := sumZ Z n) (by omega)
  have hE : fitB (sumZ Z n) ≠ false := by rw [hb.1]; simp
  rw [hb.2.1, hb.2.2, h0] at cm
  obtain ⟨R, r1, r2, hmk⟩ := mk_row 48 2 .i64 n Try.underlying48 (by kernel_rfl) (by omega)
  clear r1 r2
  have he : splE Z n T = 10 := by unfold splE; rw [if_neg (by omega), if_neg (fun h => h.elim (by omega) HX.out), if_neg hE, if_neg hz, if_pos h0]
  unfold SplC
  rw [he]
  have HE := Lib.hid he
  clear he hA hF hP h0 hb hE
  go_enter Try.func23, Try.ntmps23
  go_wp2_with (first | (go_at_call 31; (with_reducible refine (c).mono ?_); rintro e w1 ⟨⟨b, rfl, hb⟩, rfl⟩; obtain rfl : b = false := (by cases b; rfl; exact absurd (hb.1 rfl) HX.out); clear hb) | (go_at_call 26; (with_reducible refine (cm).mono ?_); rintro e w1 ⟨rfl, rfl⟩))
  go_ret2
  exact ⟨⟨_, rfl, fun h => by rw [HE.out] at h; omega, fun _ => rfl⟩, below_new _ _⟩
end Go.Proofs.Yticdcdahehodkaa
/-! fixnum's Split where there are parts. Condition: the numbers fit their kinds. -/
namespace Go.Proofs.Yticdcdahehodkaa
set_option linter.unusedVariables false
set_option linter.unusedSimpArgs false
open Go.RowKit

theorem wrapN64 {n : Nat} {z : Int} (hz : z = (n : Int)) (h : n ≤ 9223372036854775807) : IntKind.i64.wrap z = (n : Int) := by rw [IntKind.wrap_i64]; omega
/-- the first p in order -/
def tkd (d : Nat → Nat) : Nat → Nat → Bool
  | 0 => fun _ => false
  | p + 1 => fun j => decide (j = d p) || tkd d p j
theorem tkd_iff (d : Nat → Nat) : ∀ (p j : Nat), tkd d p j = true ↔ ∃ i, i < p ∧ d i = j
  | 0, j => ⟨(fun h => by cases h), (fun ⟨i, h, _⟩ => by omega)⟩
  | p + 1, j => by
    show (decide (j = d p) || tkd d p j) = true ↔ _
    rw [Bool.or_eq_true, decide_eq_true_iff, tkd_iff d p j]
    constructor
    · rintro (rfl | ⟨i, h1, h2⟩)
      · exact ⟨p, by omega, rfl⟩
      · exact ⟨i, by omega, h2⟩
    · rintro ⟨i, h1, h2⟩
      by_cases e : i = p
      · subst e; exact .inl h2.symm
      · exact .inr ⟨i, by omega, h2⟩
theorem perm_onto {n : Nat} {d : Nat → Nat} (h : PermOn 0 n id d) : (∀ i, i < n → d i < n) ∧ (∀ i j, d i = d j → i = j) ∧ ∀ y, y < n → ∃ i, i < n ∧ d i = y := by
  obtain ⟨s, t, h1, h2, h3, h4⟩ := h
  have e : ∀ k, d k = s k := fun k => h4 k
  refine ⟨fun i hi => ?_, fun i j hij => ?_, fun y hy => ⟨t y, ?_, by rw [e, h1]⟩⟩
  · rw [e]
    apply Classical.byContradiction; intro hc
    have e1 := h3 (s i) (by omega)
    have e2 := congrArg t e1
    rw [h2, h2] at e2
    omega
  · rw [e, e] at hij
    have e2 := congrArg t hij
    rwa [h2, h2] at e2
  · apply Classical.byContradiction; intro hc
    have e1 := h3 (t y) (by omega)
    rw [h1] at e1
    omega
theorem tkd_all {K : Nat → Int} {n : Nat} {d : Nat → Nat} (hp : PermOn 0 n id d) (hs : Srt K 0 n d) : ∀ p, p ≤ n → Clo K n (tkd d p) ∧ cnt (tkd d p) n = p
  | 0, _ => ⟨(fun i j _ _ h _ => by cases h), cnt_none n⟩
  | p + 1, h => by
    obtain ⟨h1, h2⟩ := tkd_all hp hs p (by omega)
    obtain ⟨o1, o2, o3⟩ := perm_onto hp
    have hf : tkd d p (d p) = false := by
      rw [Bool.eq_false_iff]; intro ht
      obtain ⟨i, hi, e⟩ := (tkd_iff d p (d p)).1 ht
      have := o2 _ _ e; omega
    obtain ⟨h3, h4⟩ := h1.next (o1 p (by omega)) hf (fun y hy hyt => by
      obtain ⟨i, hi, rfl⟩ := o3 y hy
      have hpi : p ≤ i := by
        apply Classical.byContradiction; intro hc
        rw [(tkd_iff d p (d i)).2 ⟨i, by omega, rfl⟩] at hyt; cases hyt
      by_cases e : i = p
      · subst e; exact .inl rfl
      · exact .inr (hs p i (by omega) (by omega) hi))
    exact ⟨h3, h4.trans (by rw [h2])⟩

/-- the four blocks that a split makes -/
structure SplW (w wr : World) (gp gu gv go n k : Nat) (W : Nat → Nat) (T : Nat) : Prop where
  below : Below w.heap.size w wr
  p : ∃ P, wr.heap[gp]? = some (.cells P 2 (0, 0)) ∧ P.size = n ∧ ∀ j, j < k → P[j]? = some (.int .i64 (flo W n T j : Nat))
  u : ∃ U, wr.heap[gu]? = some (.cells U 55 (0, 0)) ∧ U.size = n ∧ ∀ j, j < k → U[j]? = some (.int .u64 (res W n T j : Nat))
  v : wr.heap[gv]? = some (.cells #[.slice (some ⟨gu, 0, none⟩) n n] 65 (0, 0))
  o : ∃ O, wr.heap[go]? = some (.cells O 3 (0, 0)) ∧ O.size = n ∧ ∀ j, j < k → O[j]? = some (.int .i64 (j : Nat))
theorem set_at {A : Array Value} {n k : Nat} {v : Value} {f : Nat → Value} (hs : A.size = n) (hk : k < n) (h : ∀ j, j < k → A[j]? = some (f j)) (hv : v = f k) : (A.setIfInBounds k v).size = n ∧ ∀ j, j < k + 1 → (A.setIfInBounds k v)[j]? = some (f j) := by
  refine ⟨by simp [hs], fun j hj => ?_⟩
  by_cases e : j = k
  · subst e; rw [Array.getElem?_setIfInBounds_self_of_lt (by omega), hv]
  · rw [Array.getElem?_setIfInBounds_ne (by omega)]; exact h j (by omega)
theorem below_setS {w wr : World} {b g i : Nat} {v : Value} (h : Below b w wr) (hg : b ≤ g) : Below b w (wr.setCell ⟨g, i, none⟩ v) :=
  ⟨h.os, h.tape, h.output, by simpa [World.setCell] using h.size, fun k hk => by rw [heap_setCell_other wr ⟨g, i, none⟩ k v (show k ≠ g by omega)]; exact h.block k hk⟩
theorem SplW.next {w wr : World} {gp gu gv go n k T : Nat} {W : Nat → Nat} {a b c : Value} (h : SplW w wr gp gu gv go n k W T) (hk : k < n) (h1 : w.heap.size ≤ gp) (h2 : gp < gu) (h3 : gu < gv) (h4 : gv < go)
    (ha : a = .int .i64 (flo W n T k : Nat)) (hb : b = .int .u64 (res W n T k : Nat)) (hc : c = .int .i64 (k : Nat)) :
    SplW w (((wr.setCell ⟨gp, k, none⟩ a).setCell ⟨gu, k, none⟩ b).setCell ⟨go, k, none⟩ c) gp gu gv go n (k + 1) W T := by
  obtain ⟨P, p1, p2, p3⟩ := h.p
  obtain ⟨U, u1, u2, u3⟩ := h.u
  obtain ⟨O, o1, o2, o3⟩ := h.o
  refine ⟨below_setS (below_setS (below_setS h.below (by omega)) (by omega)) (by omega), ⟨_, heap_set_other (heap_set_other (heap_set p1) (by omega)) (by omega), set_at p2 hk p3 ha⟩, ⟨_, heap_set_other (heap_set (heap_set_other u1 (by omega))) (by omega), set_at u2 hk u3 hb⟩,
    heap_set_other (heap_set_other (heap_set_other h.v (by omega)) (by omega)) (by omega), ⟨_, heap_set (heap_set_other (heap_set_other o1 (by omega)) (by omega)), set_at o2 hk o3 hc⟩⟩
theorem SplW.drew {w wr : World} {gp gu gv go n k T : Nat} {W : Nat → Nat} (h : SplW w wr gp gu gv go n k W T) : SplW w wr.drew gp gu gv go n k W T := ⟨Below.drew h.below, h.p, h.u, h.v, h.o⟩
theorem SplW.after {w wr w' : World} {gp gu gv go n k T : Nat} {W : Nat → Nat} (h : SplW w wr gp gu gv go n k W T) (hb : Below wr.heap.size wr w') : SplW w w' gp gu gv go n k W T := by
  obtain ⟨P, p1, p2, p3⟩ := h.p
  obtain ⟨U, u1, u2, u3⟩ := h.u
  obtain ⟨O, o1, o2, o3⟩ := h.o
  exact ⟨below_then h.below hb, ⟨P, Yticdcdahehodkaa.kept hb p1, p2, p3⟩, ⟨U, Yticdcdahehodkaa.kept hb u1, u2, u3⟩, Yticdcdahehodkaa.kept hb h.v, ⟨O, Yticdcdahehodkaa.kept hb o1, o2, o3⟩⟩
/-- the cells that a round writes -/
theorem SplW.cells {w wr : World} {gp gu gv go n k T : Nat} {W : Nat → Nat} (h : SplW w wr gp gu gv go n k W T) (hk : k < n) (h2 : gp < gu) (h3 : gu < gv) (h4 : gv < go) (a b : Value) :
    (∃ x, wr.cell? ⟨gp, k, none⟩ = some x) ∧ (∃ x, (wr.setCell ⟨gp, k, none⟩ a).cell? ⟨gu, k, none⟩ = some x) ∧ (∃ x, ((wr.setCell ⟨gp, k, none⟩ a).setCell ⟨gu, k, none⟩ b).cell? ⟨go, k, none⟩ = some x) ∧
    wr.frozen? ⟨gp, k, none⟩ = false ∧ wr.frozen? ⟨gu, k, none⟩ = false ∧ wr.frozen? ⟨go, k, none⟩ = false ∧ wr.cell? ⟨gv, 0, none⟩ = some (.slice (some ⟨gu, 0, none⟩) n n) := by
  obtain ⟨P, p1, p2, p3⟩ := h.p
  obtain ⟨U, u1, u2, u3⟩ := h.u
  obtain ⟨O, o1, o2, o3⟩ := h.o
  have u4 := heap_set_other (g := gp) (i := k) (v := a) u1 (by omega)
  have o4 := heap_set_other (g := gu) (i := k) (v := b) (heap_set_other (g := gp) (i := k) (v := a) o1 (by omega)) (by omega)
  refine ⟨⟨_, ((cells_of p1).1 k).trans (Array.getElem?_eq_getElem (by omega))⟩, ⟨_, ((cells_of u4).1 k).trans (Array.getElem?_eq_getElem (by omega))⟩, ⟨_, ((cells_of o4).1 k).trans (Array.getElem?_eq_getElem (by omega))⟩,
    (cells_of p1).2.1 k, (cells_of u1).2.1 k, (cells_of o1).2.1 k, (cells_of h.v).1 0⟩

structure SplX (w wr : World) (gp go n p : Nat) (d W : Nat → Nat) (T : Nat) : Prop where
  below : Below w.heap.size w wr
  p : ∃ P, wr.heap[gp]? = some (.cells P 2 (0, 0)) ∧ P.size = n ∧ ∀ j, j < n → P[j]? = some (.int .i64 (flo W n T j + b01 (tkd d p j) : Nat))
  o : ∃ O, wr.heap[go]? = some (.cells O 3 (0, 0)) ∧ n ≤ O.size ∧ ∀ j, j < n → O[j]? = some (.int .i64 (d j))
theorem SplX.next {w wr : World} {gp go n p T : Nat} {d W : Nat → Nat} {v : Value} (h : SplX w wr gp go n p d W T) (h1 : w.heap.size ≤ gp) (h2 : gp < go) (hx : d p < n) (hf : tkd d p (d p) = false) (hv : v = .int .i64 (flo W n T (d p) + 1 : Nat)) :
    SplX w (wr.setCell ⟨gp, d p, none⟩ v) gp go n (p + 1) d W T := by
  obtain ⟨P, p1, p2, p3⟩ := h.p
  obtain ⟨O, o1, o2, o3⟩ := h.o
  refine ⟨below_setS h.below h1, ⟨_, heap_set p1, by simp [p2], fun j hj => ?_⟩, ⟨O, heap_set_other o1 (by omega), o2, o3⟩⟩
  by_cases e : j = d p
  · subst e
    rw [Array.getElem?_setIfInBounds_self_of_lt (by omega), hv, show tkd d (p + 1) (d p) = true from by show (decide (d p = d p) || _) = true; simp]
    rfl
  · rw [Array.getElem?_setIfInBounds_ne (by omega), show tkd d (p + 1) j = tkd d p j from by show (decide (j = d p) || _) = _; simp [e]]
    exact p3 j hj

set_option maxRecDepth 100000 in
set_option maxHeartbeats 4000000 in
theorem split_parts (a : Option Addr) (n cap : Nat) (Z : Nat → Int) (T S : Nat) (w : World) (hn : n ≤ 1000) (hF : ∀ i, F64 (Z i)) (hA : Ints w a n Z) (hT : 0 < T) (hTb : T ≤ 9223372036854775807) (hP : ∀ i, i < n → 0 ≤ Z i) (hS0 : 0 < S) (hSb : S ≤ 9223372036854775807) (hS : sumN (wts Z) n = S) :
    Calls Try.prog 23 #[.int .i64 T, .slice a n cap] w fun e w' => (∃ g P, e = .returned (.tuple #[.slice (some ⟨g, 0, none⟩) n n, .int .i64 0]) ∧ w.heap.size ≤ g ∧ w'.heap[g]? = some (.cells P 2 (0, 0)) ∧ P.size = n ∧ ∀ i, i < n → P[i]? = some (.int .i64 (prt (wts Z) n T i : Nat))) ∧ Below w.heap.size w w' := by
  have c := has_any a n cap Z w hA (by omega)
  have cm := fsum_any a n cap Z w hF hA (by omega)
  have HX := Lib.hid (show ¬ ∃ i, i < n ∧ Z i < 0 from fun ⟨i, h1, h2⟩ => by have := hP i h1; omega)
  rw [wts_sum n hP, hS] at cm
  have hb := fit_yes (v := (S : Int)) (by omega)
  rw [hb.2.1, hb.2.2] at cm
  obtain ⟨RP, rp1, rp2, hmp⟩ := mk_row 48 2 .i64 n Try.underlying48 (by kernel_rfl) (by omega)
  obtain ⟨RU, ru1, ru2, hmu⟩ := mk_row 65 55 .u64 n Try.underlying65 (by kernel_rfl) (by omega)
  obtain ⟨RO, ro1, ro2, hmo⟩ := mk_row 52 3 .i64 n Try.underlying52 (by kernel_rfl) (by omega)
  have HRP := Lib.hid rp1
  have HRU := Lib.hid ru1
  have HRO := Lib.hid ro1
  have HA := Lib.hid hA
  have HF := Lib.hid hF
  have HPP := Lib.hid hP
  have HS := Lib.hid hS
  have hTi : (T : Int) ≤ 9223372036854775807 := by omega
  have hT0 : ¬ (T : Int) < 0 := by omega
  have hTz : ((T : Int) == 0) = false := by rw [beq_eq_false_iff_ne]; omega
  have hSz : ((S : Int) == 0) = false := by rw [beq_eq_false_iff_ne]; omega
  have hni : ¬ (1000 : Int) < n := by omega
  have wT : IntKind.u64.wrap (T : Int) = (T : Int) := by rw [IntKind.wrap_u64]; omega
  have wS : IntKind.u64.wrap (S : Int) = (S : Int) := by rw [IntKind.wrap_u64]; omega
  have HN := Lib.hid (And.intro hTb hSb)
  clear hb rp1 rp2 ru1 ru2 ro1 ro2 hA hF hP hS hTb hSb
  go_enter Try.func23, Try.ntmps23
  go_wp2_with (first | (go_at_call 31; (with_reducible refine (c).mono ?_); rintro e w1 ⟨⟨b, rfl, hb⟩, rfl⟩; obtain rfl : b = false := (by cases b; rfl; exact absurd (hb.1 rfl) HX.out); clear hb) | (go_at_call 26; (with_reducible refine (cm).mono ?_); rintro e w1 ⟨rfl, rfl⟩))
  obtain ⟨gp, hgp⟩ : ∃ g, g = w.heap.size := ⟨_, rfl⟩
  obtain ⟨gu, hgu⟩ : ∃ g, g = gp + 1 := ⟨_, rfl⟩
  obtain ⟨gv, hgv⟩ : ∃ g, g = gu + 1 := ⟨_, rfl⟩
  obtain ⟨go, hgo⟩ : ∃ g, g = gv + 1 := ⟨_, rfl⟩
  rw [← hgp, ← hgu, ← hgv, ← hgo]
  obtain ⟨w3, hw3⟩ : ∃ w3, w3 = (((w.alloc (.cells RP 2)).alloc (.cells RU 55)).alloc (.cells #[.slice (some ⟨gu, 0, none⟩) n n] 65)).alloc (.cells RO 3) := ⟨_, rfl⟩
  rw [← hw3]
  have W0 := Lib.hid (show SplW w w3 gp gu gv go n 0 (wts Z) T from by
    subst hw3; subst hgo; subst hgv; subst hgu; subst hgp
    refine ⟨below_alloc (below_alloc (below_alloc (below_new _ _) _) _) _, ⟨RP, (by repeat (first | exact heap_new (by simp; done) | refine heap_up ?_)), HRP.out, fun j hj => by omega⟩, ⟨RU, (by repeat (first | exact heap_new (by simp; done) | refine heap_up ?_)), HRU.out, fun j hj => by omega⟩, (by repeat (first | exact heap_new (by simp; done) | refine heap_up ?_)), ⟨RO, (by repeat (first | exact heap_new (by simp; done) | refine heap_up ?_)), HRO.out, fun j hj => by omega⟩⟩)
  have HG := Lib.hid (show w.heap.size ≤ gp ∧ gp < gu ∧ gu < gv ∧ gv < go from by omega)
  clear hw3 hgo hgv hgu hgp HRP HRU HRO hmp hmu hmo c
  go_loopg [10, 55] n (fun gh vl vi wr => ∃ k : Nat, k ≤ n ∧ gh = n - k ∧ vl = .int .u64 ((T - sumN (flo (wts Z) n T) k : Nat) : Int) ∧ vi = .int .i64 k ∧ SplW w wr gp gu gv go n k (wts Z) T)
  case atStart => exact ⟨0, by omega, by omega, by simp [sumN], rfl, W0.out⟩
  case round =>
    clear W0
    obtain ⟨k, hk, rfl, rfl, rfl, hW⟩ := hrel
    have HW := Lib.hid hW
    clear hW
    by_cases hlt : k < n
    · obtain ⟨g, off, A, t, fr, rfl, hgA, hz⟩ := (HA.out.kept (HW.out.below)) k hlt
      have hcA := cellF hgA
      obtain ⟨x, hx⟩ : ∃ x, x = wts Z k := ⟨_, rfl⟩
      have hxz : Z k = (x : Int) := by have := HPP.out k hlt; rw [hx]; unfold wts; omega
      have hx64 := HF.out k
      rw [hxz] at hz hx64
      unfold F64 at hx64
      have hTb := HN.out.1
      have hSb := HN.out.2
      have hxS : x ≤ S := by rw [hx, ← HS.out]; exact sumN_one (wts Z) hlt
      have wx : IntKind.u64.wrap (x : Int) = (x : Int) := by rw [IntKind.wrap_u64]; omega
      obtain ⟨q, hq⟩ : ∃ q, q = flo (wts Z) n T k := ⟨_, rfl⟩
      obtain ⟨r, hr⟩ : ∃ r, r = res (wts Z) n T k := ⟨_, rfl⟩
      have hqT : q ≤ T := by rw [hq]; exact flo_le (by rw [HS.out]; exact hS0) hlt
      have hq' : q = T * x / S := by rw [hq, hx, ← HS.out]; rfl
      have hr' : r = T * x % S := by rw [hr, hx, ← HS.out]; rfl
      obtain ⟨l, hl⟩ : ∃ l, l = T - sumN (flo (wts Z) n T) k := ⟨_, rfl⟩
      obtain ⟨l2, hl2⟩ : ∃ l, l = T - sumN (flo (wts Z) n T) (k + 1) := ⟨_, rfl⟩
      have hsum : sumN (flo (wts Z) n T) (k + 1) ≤ T := flo_part (by rw [HS.out]; exact hS0) (by omega)
      have hll : l = l2 + q := by
        have e : sumN (flo (wts Z) n T) (k + 1) = sumN (flo (wts Z) n T) k + flo (wts Z) n T k := rfl
        rw [← hq] at e
        omega
      have hlT : l ≤ T := by omega
      have wl : IntKind.u64.wrap ((l : Int) - (q : Int)) = (l2 : Int) := by rw [IntKind.wrap_u64]; omega
      have wq : IntKind.i64.wrap (q : Int) = (q : Int) := by rw [IntKind.wrap_i64]; omega
      have sm := fun w => Try.bits_Mul64 T x (by omega) (by omega) w
      obtain ⟨hi, hhi⟩ : ∃ h, h = T * x / 18446744073709551616 := ⟨_, rfl⟩
      obtain ⟨lo, hlo⟩ : ∃ h, h = T * x % 18446744073709551616 := ⟨_, rfl⟩
      have hPe : hi * 18446744073709551616 + lo = T * x := by omega
      have hhS : hi < S := by
        have h1 : T * x ≤ T * S := Nat.mul_le_mul_left _ hxS
        have h2 : T * S < 18446744073709551616 * S := Nat.mul_lt_mul_of_pos_right (by omega) hS0
        rw [hhi, Nat.div_lt_iff_lt_mul (by omega), Nat.mul_comm S]
        omega
      have sd := fun w => div64_any hi lo S w hhS (by omega) (by omega)
      rw [hPe, ← hq', ← hr'] at sd
      rw [← hhi, ← hlo] at sm
      rw [← hl]
      have HQ := Lib.hid (And.intro hq (And.intro hr hl2))
      have hG := HG.out
      have hki : (k : Int) < n := by omega
      clear hl hl2 hsum hll hq hr hq' hr' hhi hlo hPe hhS hx hxz hx64 hTb hSb hlT hqT hxS
      go_wp2_with (first | (go_at_call 33; (with_reducible refine (sm _).mono ?_); rintro e w1 ⟨rfl, hw1⟩; obtain rfl := hw1.symm))
      refine (sd _).mono ?_
      rintro e w5 ⟨rfl, hb5⟩
      have W5 := Lib.hid (HW.out.after hb5)
      clear hcA HW hb5 hgA sd sm
      obtain ⟨⟨y1, c1⟩, ⟨y2, c2⟩, ⟨y3, c3⟩, f1, f2, f3, cv⟩ := W5.out.cells hlt hG.2.1 hG.2.2.1 hG.2.2.2 (.int .i64 (q : Int)) (.int .u64 (r : Int))
      go_wp2
      go_region
      obtain ⟨w6, hw6⟩ : ∃ w6, w6 = (((w5.setCell ⟨gp, k, none⟩ (.int .i64 (q : Int))).setCell ⟨gu, k, none⟩ (.int .u64 (r : Int))).setCell ⟨go, k, none⟩ (.int .i64 (k : Int))).drew := ⟨_, rfl⟩
      have W6 := Lib.hid (show SplW w w6 gp gu gv go n (k + 1) (wts Z) T from by
        rw [hw6]; exact (W5.out.next hlt hG.1 hG.2.1 hG.2.2.1 hG.2.2.2 (by rw [HQ.out.1]) (by rw [HQ.out.2.1]) rfl).drew)
      rw [← hw6]
      clear hw6 c1 c2 c3 cv f1 f2 f3 W5
      go_wp2
      go_roundg (n - (k + 1))
      case measure => omega
      case rel => exact ⟨k + 1, by omega, rfl, by rw [← HQ.out.2.2], by go_num, W6.out⟩
    · obtain rfl : k = n := by omega
      have hU := HW.out.u
      have hO := HW.out.o
      have hgv := HW.out.v
      have hG := HG.out
      obtain ⟨U, u1, u2, u3⟩ := hU
      obtain ⟨O, o1, o2, o3⟩ := hO
      have hcmp : CmpAt wr go k (rcf (res (wts Z) k T)) (.pointer (some ⟨gv, 0, none⟩)) := fun W hgr x y hx hy =>
        cmp_any gv gu k x y (res (wts Z) k T) U _ _ _ _ _ W (by rw [hgr.block gv ((Array.getElem?_eq_some_iff.1 hgv).1) (by intro h; injection h with h; omega)]; exact hgv) rfl (by rw [hgr.block gu ((Array.getElem?_eq_some_iff.1 u1).1) (by intro h; injection h with h; omega)]; exact u1) u3 hx hy
      have hrow : RowI wr wr go k id := ⟨⟨rfl, rfl, rfl, Nat.le_refl _, fun _ _ _ => rfl⟩, ⟨O, o1, by omega, o3⟩, fun _ h => h, by omega⟩
      have cs := sorted_any go k k (rkey (wts Z) k T) (rcf (res (wts Z) k T)) (.pointer (some ⟨gv, 0, none⟩)) wr wr (fun x y => rcf_key _ x y) hcmp hrow
      have hS0' : 0 < sumN (wts Z) k := by rw [HS.out]; exact hS0
      obtain ⟨L, hL⟩ : ∃ L, L = lef (wts Z) k T := ⟨_, rfl⟩
      have hLn : L ≤ k := by rw [hL]; exact lef_le hS0'
      rw [show T - sumN (flo (wts Z) k T) k = L from hL.symm]
      have HL := Lib.hid hL
      have hLi : (L : Int) ≤ (k : Int) := by omega
      clear hcmp hrow u1 u2 u3 o1 o2 o3 hgv hL
      go_wp2_with (first | (go_at_call 35; (with_reducible refine (cs).mono ?_); rintro e w7 ⟨rfl, d, hR7, hp7, hs7⟩; replace hR7 := Lib.hid hR7; replace hp7 := Lib.hid hp7; replace hs7 := Lib.hid hs7))
      have X0 := Lib.hid (show SplX w w7 gp go k 0 d (wts Z) T from by
        obtain ⟨P, p1, p2, p3⟩ := HW.out.p
        obtain ⟨O, o1, o2, o3⟩ := hR7.out.row
        refine ⟨HW.out.below.grown hR7.out.fr HW.out.below.size (fun k hk => by cases hk; omega), ⟨P, by rw [hR7.out.fr.block gp ((Array.getElem?_eq_some_iff.1 p1).1) (by intro h; injection h with h; omega)]; exact p1, p2, fun j hj => by rw [p3 j hj]; rfl⟩, ⟨O, o1, o2, o3⟩⟩)
      have hS0' : 0 < sumN (wts Z) k := by rw [HS.out]; exact hS0
      have TK := Lib.hid (tkd_all hp7.out hs7.out)
      have ON := Lib.hid (perm_onto hp7.out)
      have FIN := Lib.hid (show ∀ j, j < k → prt (wts Z) k T j = flo (wts Z) k T j + b01 (tkd d L j) from fun j hj => by
        unfold prt
        rw [← HL.out]
        congr 2
        rw [Bool.eq_iff_iff, decide_eq_true_iff]
        obtain ⟨g1, g2⟩ := TK.out L hLn
        exact rk_closed g1 g2 j hj)
      have PL := Lib.hid (fun (j : Nat) (hj : j < k) => prt_le (W := wts Z) (T := T) hS0' hj)
      clear HW hR7 hp7 hs7 HS HL cm HX HA HPP HF hS0'
      go_loopg [100] L (fun gh vp wr => ∃ p : Nat, p ≤ L ∧ gh = L - p ∧ vp = .int .i64 p ∧ SplX w wr gp go k p d (wts Z) T)
      case atStart => exact ⟨0, by omega, by omega, rfl, X0.out⟩
      case round =>
        clear X0
        obtain ⟨p, hp, rfl, rfl, hX⟩ := hrel
        have HX := Lib.hid hX
        clear hX
        by_cases hlt : p < L
        · obtain ⟨P, p1, p2, p3⟩ := HX.out.p
          obtain ⟨O, o1, o2, o3⟩ := HX.out.o
          obtain ⟨x, hx⟩ : ∃ x, x = d p := ⟨_, rfl⟩
          have hxk : x < k := by rw [hx]; exact ON.out.1 p (by omega)
          have hf : tkd d p x = false := by
            rw [Bool.eq_false_iff]; intro ht
            obtain ⟨i, hi, e⟩ := (tkd_iff d p x).1 ht
            have := ON.out.2.1 i p (by rw [e, hx]); omega
          have ht : tkd d L x = true := (tkd_iff d L x).2 ⟨p, hlt, hx.symm⟩
          obtain ⟨q, hq⟩ : ∃ q, q = flo (wts Z) k T x := ⟨_, rfl⟩
          have hq1 : q + 1 ≤ T := by
            have h1 := PL.out x hxk
            rw [FIN.out x hxk, ht, ← hq] at h1
            exact h1
          have c1 := ((cells_of o1).1 p).trans (o3 p (by omega))
          have c2 := ((cells_of p1).1 x).trans (p3 x hxk)
          have f2 := (cells_of p1).2.1 x
          rw [hf, ← hq, show b01 false = 0 from rfl, Nat.add_zero] at c2
          rw [← hx] at c1
          have hTb := HN.out.1
          have wq := wrapN64 (z := (q : Int) + 1) (n := q + 1) (by omega) (by omega)
          have hpi : (p : Int) < L := by omega
          have hpk : (p : Int) < k := by omega
          have hxi : (x : Int) < k := by omega
          have NX := Lib.hid (fun (v : Value) (hv : v = .int .i64 (q + 1 : Nat)) => show SplX w (wr.setCell ⟨gp, x, none⟩ v) gp go k (p + 1) d (wts Z) T from by
            rw [hx]
            have hG := HG.out
            exact HX.out.next hG.1 (by omega) (by rw [← hx]; exact hxk) (by rw [← hx]; exact hf) (by rw [hv, hq, hx]))
          clear p1 p2 p3 o1 o2 o3 hx hf ht hq hTb
          go_wp2
          go_roundg (L - (p + 1))
          case measure => omega
          case rel => exact ⟨p + 1, by omega, rfl, by go_num, NX.out _ rfl⟩
        · obtain rfl : p = L := by omega
          obtain ⟨P, p1, p2, p3⟩ := HX.out.p
          have HP1 := Lib.hid p1
          have HP2 := Lib.hid p2
          have HP3 := Lib.hid p3
          clear p1 p2 p3
          go_wp2
          go_ret2
          exact ⟨⟨gp, P, rfl, HG.out.1, HP1.out, HP2.out, fun i hi => by rw [HP3.out i hi, FIN.out i hi]⟩, HX.out.below⟩
end Go.Proofs.Yticdcdahehodkaa
/-! fixnum's Split of any total by any weights. Condition: the numbers fit their kinds. -/
namespace Go.Proofs.Yticdcdahehodkaa
set_option linter.unusedVariables false
set_option linter.unusedSimpArgs false
open Go.RowKit

theorem split_any (a : Option Addr) (n cap : Nat) (Z : Nat → Int) (T : Int) (w : World) (hF : ∀ i, F64 (Z i)) (hA : Ints w a n Z) (hT : F64 T) : SplC a n cap Z T w := by
  by_cases h1 : 1000 < n
  · exact split_long a n cap Z T w h1
  · by_cases h2 : T < 0 ∨ ∃ i, i < n ∧ Z i < 0
    · exact split_neg a n cap Z T w (by omega) hA h2
    · have hT0 : 0 ≤ T := by
        apply Classical.byContradiction; intro h; exact h2 (.inl (by omega))
      have hP : ∀ i, i < n → 0 ≤ Z i := fun i hi => by
        apply Classical.byContradiction; intro h; exact h2 (.inr ⟨i, hi, by omega⟩)
      by_cases h3 : fitB (sumZ Z n) = false
      · exact split_over a n cap Z T w (by omega) hF hA hT0 hP h3
      · have hv : -9223372036854775808 ≤ sumZ Z n ∧ sumZ Z n ≤ 9223372036854775807 := by
          unfold fitB at h3; simpa using h3
        by_cases h4 : T = 0
        · subst h4; exact split_zero a n cap Z w (by omega) hF hA hP hv
        · by_cases h5 : sumZ Z n = 0
          · exact split_none a n cap Z T w (by omega) hF hA hT0 h4 hP h5
          · have he : splE Z n T = 0 := by unfold splE; rw [if_neg h1, if_neg h2, if_neg h3, if_neg h4, if_neg h5]
            have hs := wts_sum n hP
            obtain ⟨t, rfl⟩ : ∃ t : Nat, T = (t : Int) := ⟨T.toNat, by omega⟩
            unfold F64 at hT
            have c := split_parts a n cap Z t (sumN (wts Z) n) w (by omega) hF hA (by omega) (by omega) hP (by omega) (by omega) rfl
            unfold SplC
            rw [he]
            refine c.mono ?_
            rintro e w' ⟨⟨g, P, rfl, h6, h7, h8, h9⟩, hb⟩
            exact ⟨⟨_, rfl, fun _ => ⟨g, P, rfl, h6, h7, h8, h9⟩, fun h => absurd he h⟩, hb⟩
/-- where there are parts -/
theorem splE_zero {Z : Nat → Int} {n : Nat} {T : Int} (h : splE Z n T = 0) : n ≤ 1000 ∧ 0 ≤ T ∧ (∀ i, i < n → 0 ≤ Z i) ∧ (T ≠ 0 → 0 < sumN (wts Z) n) ∧ sumZ Z n = (sumN (wts Z) n : Nat) ∧ sumZ Z n ≤ 9223372036854775807 := by
  unfold splE at h
  split at h
  · omega
  · rename_i h1
    split at h
    · omega
    · rename_i h2
      have hT0 : 0 ≤ T := by
        apply Classical.byContradiction; intro h; exact h2 (.inl (by omega))
      have hP : ∀ i, i < n → 0 ≤ Z i := fun i hi => by
        apply Classical.byContradiction; intro h; exact h2 (.inr ⟨i, hi, by omega⟩)
      split at h
      · omega
      · rename_i h3
        have hv : -9223372036854775808 ≤ sumZ Z n ∧ sumZ Z n ≤ 9223372036854775807 := by
          unfold fitB at h3; simpa using h3
        have e := wts_sum n hP
        refine ⟨by omega, hT0, hP, fun hT => ?_, e, hv.2⟩
        rw [if_neg hT] at h
        split at h
        · omega
        · omega
end Go.Proofs.Yticdcdahehodkaa
/-! tearup's Parts: what anybody gives up, or why nobody does. Condition: the numbers fit their kinds. -/
namespace Go.Proofs.Yticdcdahehodkaa
set_option linter.unusedVariables false
set_option linter.unusedSimpArgs false
open Go.RowKit

/-- what counts against the one who gives up -/
def tW (q : Int) (n : Nat) (Q : Nat → Int) : Nat → Int := fun i => if i < n then oppI q (Q i) else 0
/-- the error -/
def tE (q : Int) (n : Nat) (A Q : Nat → Int) : Int :=
  if 64 < n then 3 else if q = 0 ∨ inB q (-10000000) 10000000 = false ∨ hmay A Q n = false then 2 else if sumZ (tW q n Q) n < absI q then 7 else 0
/-- what holder i gives up -/
def tP (q : Int) (n : Nat) (Q : Nat → Int) : Nat → Nat := splP (tW q n Q) n (absI q)
/-- how many of the first k give up anything; and their rows -/
def tm (P : Nat → Nat) : Nat → Nat := cnt (fun i => decide (0 < P i))
def tR (A : Nat → Int) (P : Nat → Nat) : Nat → Nat → Array Value
  | 0 => fun _ => hA 0 0
  | k + 1 => if 0 < P k then snoc (tR A P k) (tm P k) (hA (A k) (P k : Nat)) else tR A P k
theorem tm_succ (P : Nat → Nat) (k : Nat) : tm P (k + 1) = tm P k + (if 0 < P k then 1 else 0) := by
  show tm P k + b01 (decide (0 < P k)) = _
  by_cases h : 0 < P k
  · rw [decide_eq_true h, if_pos h]; rfl
  · rw [decide_eq_false h, if_neg h]; rfl
theorem tR_size (A : Nat → Int) (P : Nat → Nat) : ∀ k j, (tR A P k j).size = 2
  | 0, j => rfl
  | k + 1, j => by
    unfold tR
    split
    · unfold snoc; split
      · rfl
      · exact tR_size A P k j
    · exact tR_size A P k j
theorem tR_all (A : Nat → Int) (P : Nat → Nat) : ∀ k j, (tR A P k j).all (·.oneCell') = true
  | 0, j => hA_all _ _
  | k + 1, j => by
    unfold tR
    split
    · unfold snoc; split
      · exact hA_all _ _
      · exact tR_all A P k j
    · exact tR_all A P k j
theorem absI_bd {q : Int} (h : -10000000 ≤ q ∧ q ≤ 10000000) : 0 ≤ absI q ∧ absI q ≤ 10000000 := by unfold absI; split <;> omega
theorem oppI_bd {q n : Int} (h : -10000000 ≤ n ∧ n ≤ 10000000) : 0 ≤ oppI q n ∧ oppI q n ≤ 10000000 := by
  unfold oppI; split
  · omega
  · exact absI_bd h
/-- the sum of what is on the other side -/
theorem tW_sum {q : Int} {n : Nat} {A Q : Nat → Int} (h : hmay A Q n = true) : ∀ k, k ≤ n → 0 ≤ sumZ (tW q n Q) k ∧ sumZ (tW q n Q) k ≤ 10000000 * k
  | 0, _ => by show (0 : Int) ≤ 0 ∧ (0 : Int) ≤ 10000000 * ((0 : Nat) : Int); omega
  | k + 1, hk => by
    have := tW_sum (q := q) h k (by omega)
    have h2 := oppI_bd (q := q) (hmay_at h (show k < n by omega)).2
    show 0 ≤ sumZ (tW q n Q) k + tW q n Q k ∧ sumZ (tW q n Q) k + tW q n Q k ≤ 10000000 * ((k + 1 : Nat) : Int)
    unfold tW at *; rw [if_pos (by omega)]; omega
theorem tW_bd {q : Int} {n : Nat} {A Q : Nat → Int} (h : hmay A Q n = true) (i : Nat) : 0 ≤ tW q n Q i ∧ tW q n Q i ≤ 10000000 := by
  unfold tW
  by_cases hi : i < n
  · rw [if_pos hi]; exact oppI_bd (hmay_at h hi).2
  · rw [if_neg hi]; omega
/-- the split goes through -/
theorem tW_split {q : Int} {n : Nat} {A Q : Nat → Int} (h : hmay A Q n = true) (hn : n ≤ 64) (hq0 : q ≠ 0) (hq : -10000000 ≤ q ∧ q ≤ 10000000) (hs : absI q ≤ sumZ (tW q n Q) n) : splE (tW q n Q) n (absI q) = 0 := by
  have h1 := tW_sum (q := q) h n (Nat.le_refl _)
  have h2 : 0 < absI q := by unfold absI; split <;> omega
  unfold splE
  rw [if_neg (by omega), if_neg (fun h3 => ?_), (fit_yes (v := sumZ (tW q n Q) n) (by omega)).1, if_neg (by simp), if_neg (by omega), if_neg (by omega)]
  rcases h3 with h3 | ⟨i, _, h3⟩
  · omega
  · have := (tW_bd (q := q) h i).1; omega

/-- the answer: nothing, and why; or rows of one's own -/
def TearV (q : Int) (n : Nat) (A Q : Nat → Int) (s : Nat) (w' : World) (v : Value) : Prop :=
  (tE q n A Q = 0 → w'.ownsRow s 32 2 v (tm (tP q n Q) n) (flat (tR A (tP q n Q) n) (tm (tP q n Q) n))) ∧ (tE q n A Q ≠ 0 → v = .slice none 0 0)
def TearC (a : Option Addr) (n cap : Nat) (A Q : Nat → Int) (q : Int) (w : World) : Prop :=
  Calls Try.prog 12 #[.int .i64 q, .slice a n cap] w fun e w' => (∃ v, e = .returned (.tuple #[v, .int .i64 (tE q n A Q)]) ∧ TearV q n A Q w.heap.size w' v) ∧ Below w.heap.size w w'

set_option maxRecDepth 100000 in
set_option maxHeartbeats 4000000 in
theorem tparts_bad (a : Option Addr) (n cap : Nat) (A Q : Nat → Int) (q : Int) (w : World) (hb : ∀ i, (0 ≤ A i ∧ A i ≤ 4294967295) ∧ F64 (Q i)) (hA : Holds w a n A Q) (hq : F64 q) (h : 64 < n ∨ q = 0 ∨ inB q (-10000000) 10000000 = false ∨ hmay A Q n = false) : TearC a n cap A Q q w := by
  by_cases hn : 64 < n
  · have he : tE q n A Q = 3 := if_pos hn
    unfold TearC
    rw [he]
    have HE := Lib.hid he
    have hni : (64 : Int) < n := by omega
    clear he hA hb hq h
    go_enter Try.func12, Try.ntmps12
    go_wp2
    go_ret2
    exact ⟨⟨_, rfl, fun h => by rw [HE.out] at h; omega, fun _ => rfl⟩, below_new _ _⟩
  · have h2 := h.resolve_left hn
    have he : tE q n A Q = 2 := by unfold tE; rw [if_neg hn, if_pos h2]
    unfold TearC
    rw [he]
    have HE := Lib.hid he
    have hni : ¬ (64 : Int) < n := by omega
    have cm := fun w2 hb2 => tmay_any a n cap A Q w2 hb (hA.kept (w' := w2) hb2) (by omega)
    have cw := fun w => within_any q 10000000 w hq (by omega) (by omega)
    clear he hA hb hq h
    by_cases hq0 : q = 0
    · subst hq0
      clear h2 cm cw
      go_enter Try.func12, Try.ntmps12
      go_wp2
      go_ret2
      exact ⟨⟨_, rfl, fun h => by rw [HE.out] at h; omega, fun _ => rfl⟩, below_new _ _⟩
    · have hqz : (q == 0) = false := by rw [beq_eq_false_iff_ne]; exact hq0
      have h3 := h2.resolve_left hq0
      clear h2
      obtain ⟨b, hb⟩ : ∃ b, b = inB q (-10000000) 10000000 := ⟨_, rfl⟩
      rw [← hb] at cw h3
      clear hb
      cases b
      · clear h3 cm
        go_enter Try.func12, Try.ntmps12
        go_wp2_with (first | (go_at_call 19; (with_reducible refine (cw _).mono ?_); rintro e w1 ⟨rfl, rfl⟩))
        go_ret2
        exact ⟨⟨_, rfl, fun h => by rw [HE.out] at h; omega, fun _ => rfl⟩, below_new _ _⟩
      · have h4 : hmay A Q n = false := h3.resolve_left (by simp)
        rw [h4] at cm
        clear h3 h4
        go_enter Try.func12, Try.ntmps12
        go_wp2_with (first | (go_at_call 19; (with_reducible refine (cw _).mono ?_); rintro e w1 ⟨rfl, rfl⟩) | (go_at_call 20; (with_reducible refine (cm _ (below_new _ _)).mono ?_); rintro e w1 ⟨rfl, hb1⟩))
        go_ret2
        exact ⟨⟨_, rfl, fun h => by rw [HE.out] at h; omega, fun _ => rfl⟩, below_then (below_new _ _) hb1⟩
end Go.Proofs.Yticdcdahehodkaa
/-! tearup's Parts where the question is one. Condition: the numbers fit their kinds. -/
namespace Go.Proofs.Yticdcdahehodkaa
set_option linter.unusedVariables false
set_option linter.unusedSimpArgs false
open Go.RowKit

set_option maxRecDepth 100000 in
set_option maxHeartbeats 8000000 in
theorem tparts_ok (a : Option Addr) (n cap : Nat) (A Q : Nat → Int) (q : Int) (w : World) (hb : ∀ i, (0 ≤ A i ∧ A i ≤ 4294967295) ∧ F64 (Q i)) (hA : Holds w a n A Q) (hn : n ≤ 64) (hq0 : q ≠ 0) (hq : -10000000 ≤ q ∧ q ≤ 10000000) (hm : hmay A Q n = true) : TearC a n cap A Q q w := by
  have hni : ¬ (64 : Int) < n := by omega
  have cm := fun w2 hb2 => tmay_any a n cap A Q w2 hb (hA.kept (w' := w2) hb2) (by omega)
  have cw := fun w => within_any q 10000000 w (by unfold F64; omega) (by omega) (by omega)
  rw [inB_iff.2 hq] at cw
  rw [hm] at cm
  have hqz : (q == 0) = false := by rw [beq_eq_false_iff_ne]; exact hq0
  have HQ := Lib.hid hq
  have HA := Lib.hid hA
  have HM := Lib.hid hm
  have HB := Lib.hid hb
  clear hA hm hb
  have hTE := Lib.hid (show tE q n A Q = if sumZ (tW q n Q) n < absI q then 7 else 0 from by
    unfold tE; rw [if_neg (by omega), if_neg (fun h => ?_)]
    rcases h with h | h | h
    · exact hq0 h
    · rw [inB_iff.2 hq] at h; cases h
    · rw [HM.out] at h; cases h)
  unfold TearC
  obtain ⟨te, hte⟩ : ∃ te, te = tE q n A Q := ⟨_, rfl⟩
  rw [← hte]
  have HTE := Lib.hid hte
  clear hq hte
  go_enter Try.func12, Try.ntmps12
  go_wp2_with (first | (go_at_call 19; (with_reducible refine (cw _).mono ?_); rintro e w1 ⟨rfl, rfl⟩) | (go_at_call 20; (with_reducible refine (cm _ (below_new _ _)).mono ?_); rintro e w1 ⟨rfl, hb1⟩))
  have hs1 : w.heap.size < w1.heap.size := by have := hb1.size; simp at this; omega
  obtain ⟨g0, hg0⟩ : ∃ g, g = w.heap.size := ⟨_, rfl⟩
  obtain ⟨g1, hg1⟩ : ∃ g, g = w1.heap.size := ⟨_, rfl⟩
  have hq1 : w1.heap[g0]? = some (.cells #[.int .i64 q] 2 (0, 0)) := by rw [hg0]; exact Yticdcdahehodkaa.kept hb1 (heap_alloc_new w _)
  have hB1 := below_then (below_new w (Obj.cells #[.int .i64 q] 2)) hb1
  rw [← hg0, ← hg1]
  obtain ⟨wb, hwb⟩ : ∃ wb, wb = w1.alloc (Obj.cells #[.func (.func 21) #[] #[]] 47) := ⟨_, rfl⟩
  rw [← hwb]
  have hbq : wb.heap[g0]? = some (.cells #[.int .i64 q] 2 (0, 0)) := by rw [hwb]; exact Yticdcdahehodkaa.kept (below_new _ _) hq1
  have hbf : wb.heap[g1]? = some (.cells #[.func (.func 21) #[] #[]] 47 (0, 0)) := by rw [hwb, hg1]; exact heap_alloc_new _ _
  have HBB := Lib.hid (show Below w.heap.size w wb from by rw [hwb]; exact below_alloc hB1 _)
  have TP := Lib.hid (fun (wx : World) (hx : Below wb.heap.size wb wx) (x : Int) (h : -10000000 ≤ x ∧ x ≤ 10000000) => topp_any x q g0 g1 _ _ _ _ wx (by omega) (Yticdcdahehodkaa.kept hx hbq) (Yticdcdahehodkaa.kept hx hbf))
  have CQ := Lib.hid (fun (wx : World) (hx : Below wb.heap.size wb wx) => show wx.cell? ⟨g0, 0, none⟩ = some (.int .i64 q) ∧ wx.cell? ⟨g1, 0, none⟩ = some (.func (.func 21) #[] #[]) from
    ⟨cellF (Yticdcdahehodkaa.kept hx hbq) 0, cellF (Yticdcdahehodkaa.kept hx hbf) 0⟩)
  obtain ⟨b, hbs⟩ : ∃ b, b = wb.heap.size := ⟨_, rfl⟩
  have hwsz := HBB.out.size
  rw [← hbs] at hwsz
  clear hwb hbq hbf hq1 hB1 hb1 hg0 hg1 hs1 cm cw
  go_loopg [8, 9, 37] n (fun gh v8 v9 vi wr => ∃ k : Nat, k ≤ n ∧ gh = n - k ∧ vi = .int .i64 k ∧ v9 = .int .i64 (sumZ (tW q n Q) k) ∧ wr.ownsRow b 2 1 v8 k (zl (tW q n Q) k) ∧ Below wb.heap.size wb wr)
  case atStart => exact ⟨0, by omega, by omega, rfl, rfl, World.ownsRow_nil _ _ _ _, Below.refl _ _⟩
  case round =>
    obtain ⟨k, hk, rfl, rfl, rfl, hown, hbw⟩ := hrel
    have HO := Lib.hid hown
    have HW := Lib.hid hbw
    have HSM := Lib.hid (tW_sum (q := q) HM.out k hk)
    clear hown hbw
    by_cases hlt : k < n
    · obtain ⟨g, off, B, t, fr, rfl, hg, hs, he, c0, c1⟩ := (HA.out.kept (below_then HBB.out HW.out)).at hlt
      have hki : (k : Int) < n := by omega
      have hqk := (hmay_at HM.out hlt).2
      have hop := oppI_bd (q := q) hqk
      have HNX := Lib.hid (show sumZ (tW q n Q) (k + 1) = sumZ (tW q n Q) k + oppI q (Q k) from by
        show sumZ (tW q n Q) k + tW q n Q k = _
        rw [show tW q n Q k = oppI q (Q k) from if_pos hlt])
      have HZL := Lib.hid (show zl (tW q n Q) k ++ zl (fun _ => oppI q (Q k)) 1 = zl (tW q n Q) (k + 1) from by
        have := zl_snoc (tW q n Q) k
        rwa [show tW q n Q k = oppI q (Q k) from if_pos hlt] at this)
      obtain ⟨s0, hs0⟩ : ∃ s0, s0 = sumZ (tW q n Q) k := ⟨_, rfl⟩
      have hsb := HSM.out
      rw [← hs0] at HNX hsb ⊢
      have ct := fun wx hx => TP.out wx hx (Q k) hqk
      generalize oppI q (Q k) = m at *
      generalize A k = x at *
      generalize Q k = y at *
      have e0 := hA_0 x y
      have e1 := hA_1 x y
      have ws : IntKind.i64.wrap (s0 + m) = s0 + m := by rw [IntKind.wrap_i64]; omega
      have HBW := Lib.hid (below_alloc (o := Obj.cells (hA x y) 32) HW.out)
      have HNEW := Lib.hid (show ((wr.alloc (Obj.cells (hA x y) 32)).alloc (Obj.cells #[.int .i64 m] 2)).heap[wr.heap.size + 1]? = some (.cells #[.int .i64 m] 2 (0, 0)) from by have := heap_alloc_new (wr.alloc (Obj.cells (hA x y) 32)) (Obj.cells #[.int .i64 m] 2); simpa using this)
      have HOLD := Lib.hid (show ((wr.alloc (Obj.cells (hA x y) 32)).alloc (Obj.cells #[.int .i64 m] 2)).heap[wr.heap.size]? = some (.cells (hA x y) 32 (0, 0)) from (by repeat (first | exact heap_new (by simp; done) | refine heap_up ?_)))
      clear hs0
      go_wp2_with (first | ((with_reducible refine at_load 32 ?_); refine wpList_load_part rfl 32 _ rfl (g) (off + k * 2) rfl _ (B) _ _ 2 (hg) Try.underlying32 rfl (by kernel_rfl) (hs) (hA x y) (he) ?_) | ((with_reducible refine at_alloc 32 ?_); refine wpList_alloc_named rfl 32 rfl (hA 0 0) (by kernel_rfl) ?_) | ((with_reducible refine at_store 32 ?_); refine wpList_store_new rfl 32 _ _ rfl (hA x y) _ _ _ rfl (by simp) rfl (by rw [hA_size _ _]; kernel_rfl) (by rw [hA_size _ _]; rfl) (hA_all _ _) ?_) | (go_at_call 22; (with_reducible refine (ct _ HBW.out).mono ?_); rintro e wx ⟨rfl, rfl⟩) | (go_at_call 22; (with_reducible refine (ct _ HB2.out).mono ?_); rintro e wx ⟨rfl, rfl⟩) | ((with_reducible refine at_append 48 ?_); refine wpList_append_ints rfl _ _ rfl b u8 k (zl (tW q n Q) k) rfl ((HO.out.alloc _).alloc _) (some ⟨wr.heap.size + 1, 0, none⟩) 1 1 (fun _ => m) rfl (fun i hi => ⟨wr.heap.size + 1, 0, #[.int .i64 m], _, _, rfl, HNEW.out, by obtain rfl : i = 0 := (by omega); rfl⟩) (fun h => by cases h) (by omega) (by have := HW.out.size; simp; omega) ?_; intro v1 w2 hown2 hgr2; have HB2 := Lib.hid ((below_alloc HBW.out _).grown hgr2 (by have := HW.out.size; simp; omega) (fun p hp => by rw [← hbs]; exact (HO.out.lt p hp).1)); replace hown2 := Lib.hid hown2; have c21 : w2.cell? ⟨wr.heap.size, 1, none⟩ = some (.int .i64 y) := (by rw [cellF (show w2.heap[wr.heap.size]? = some (.cells (hA x y) 32 (0, 0)) from by rw [hgr2.block _ (by simp; omega) (fun e => by have := (HO.out.lt _ e.symm).2; omega)]; exact HOLD.out)]; rfl); clear hgr2))
      go_roundg (n - (k + 1))
      case measure => omega
      case rel => exact ⟨k + 1, by omega, rfl, by go_num, by rw [HNX.out], by rw [← HZL.out]; exact hown2.out, HB2.out⟩
    · obtain rfl : k = n := by omega
      obtain ⟨a7, c7, rfl, hI7⟩ := own_ints HO.out
      obtain ⟨q0, q1⟩ := CQ.out wr HW.out
      have cz := fun w => tsize_any q w (by have := HQ.out; omega)
      have hqa := absI_bd HQ.out
      have hsb := HSM.out
      obtain ⟨s0, hs0⟩ : ∃ s0, s0 = sumZ (tW q k Q) k := ⟨_, rfl⟩
      have HS0 := Lib.hid hs0
      rw [← hs0] at hsb ⊢
      by_cases hlow : s0 < absI q
      · have h7 : te = 7 := by rw [HTE.out, hTE.out, if_pos (by rw [← hs0]; exact hlow)]
        subst h7
        clear hs0
        generalize absI q = z at *
        go_wp2_with (first | (go_at_call 21; (with_reducible refine (cz _).mono ?_); rintro e wx ⟨rfl, rfl⟩))
        go_ret2
        exact ⟨⟨_, rfl, fun h => by rw [← HTE.out] at h; omega, fun _ => rfl⟩, below_then HBB.out HW.out⟩
      · have h7 : te = 0 := by rw [HTE.out, hTE.out, if_neg (by rw [← hs0]; exact hlow)]
        subst h7
        have hsp := tW_split (q := q) HM.out hn hq0 HQ.out (by rw [← hs0]; omega)
        have cs := split_any a7 k c7 (tW q k Q) (absI q) wr (fun i => by have := tW_bd (q := q) HM.out i; unfold F64; omega) hI7 (by unfold F64; omega)
        unfold SplC at cs
        rw [hsp] at cs
        have HSP := Lib.hid hsp
        have HPP := Lib.hid (show tP q k Q = splP (tW q k Q) k (absI q) from rfl)
        clear hs0 hsp hI7
        generalize absI q = z at *
        go_wp2_with (first | (go_at_call 21; (with_reducible refine (cz _).mono ?_); rintro e wx ⟨rfl, rfl⟩) | (go_at_call 23; (with_reducible refine (cs).mono ?_); rintro e w5 ⟨⟨v5, rfl, hv5⟩, hb5⟩; obtain ⟨gp, PA, rfl, hgp, hPA, hPs, hPp⟩ := hv5.1 HSP.out; replace hPA := Lib.hid hPA; replace hPp := Lib.hid hPp; replace hb5 := Lib.hid hb5; clear hv5 hPs hgp))
        have HB5 := Lib.hid (below_then HBB.out (below_then HW.out hb5.out))
        rw [show splP (tW q k Q) k z = tP q k Q from HPP.out.symm] at hPp
        obtain ⟨pp, hpp⟩ : ∃ pp, pp = tP q k Q := ⟨_, rfl⟩
        rw [← hpp] at hPp
        have HPE := Lib.hid hpp
        have hz5 := HB5.out.size
        clear cz hpp HO HS0 hqa hsb HSP HPP TP CQ hb5 hlow q0 q1
        go_loopg [14, 73] k (fun gh v14 vi wr => ∃ j : Nat, j ≤ k ∧ gh = k - j ∧ vi = .int .i64 j ∧ wr.ownsRow w5.heap.size 32 2 v14 (tm pp j) (flat (tR A pp j) (tm pp j)) ∧ Below w5.heap.size w5 wr)
        case atStart => exact ⟨0, by omega, by omega, rfl, World.ownsRow_nil _ _ _ _, Below.refl _ _⟩
        case round =>
          obtain ⟨j, hj, rfl, rfl, hown, hbw⟩ := hrel
          have HO := Lib.hid hown
          have HX := Lib.hid hbw
          clear hown hbw
          by_cases hlt : j < k
          · have hcp := ((cells_of (Yticdcdahehodkaa.kept HX.out hPA.out)).1 j).trans (hPp.out j hlt)
            obtain ⟨g, off, B, t, fr, rfl, hg, hs, he, c0, c1⟩ := (HA.out.kept (below_then HB5.out HX.out)).at hlt
            have hjk : (j : Int) < k := by omega
            have HT1 := Lib.hid (tm_succ pp j)
            have hst : tm pp j ≤ 64 := by have := cnt_le (fun i => decide (0 < pp i)) j; unfold tm; omega
            obtain ⟨m, hm⟩ : ∃ m, m = pp j := ⟨_, rfl⟩
            rw [← hm] at hcp HT1
            by_cases hp0 : 0 < m
            · have hpi : 0 < (m : Int) := by omega
              have HR1 := Lib.hid (show flat (tR A pp (j + 1)) (tm pp (j + 1)) = flat (tR A pp j) (tm pp j) ++ (hA (A j) (m : Int)).toList from by
                have e1 : tm pp (j + 1) = tm pp j + 1 := by rw [HT1.out, if_pos hp0]
                have e2 : tR A pp (j + 1) = snoc (tR A pp j) (tm pp j) (hA (A j) (m : Int)) := by
                  show (if 0 < pp j then snoc (tR A pp j) (tm pp j) (hA (A j) (pp j : Nat)) else tR A pp j) = _
                  rw [← hm, if_pos hp0]
                rw [e1, e2, flat_snoc])
              have HT2 := Lib.hid (show tm pp (j + 1) = tm pp j + 1 from by rw [HT1.out, if_pos hp0])
              generalize A j = x at *
              clear hm c1
              go_wp2_with (first | ((with_reducible refine at_build 32 ?_); refine wpList_build_named rfl 32 _ rfl (hA x (m : Int)) (by kernel_rfl) ?_) | ((with_reducible refine at_slice1 22 ?_); obtain ⟨ip, zp, ip1, ip2, ip3, ip4, ip5⟩ := info_hold; refine wpList_slice1c rfl 22 32 _ rfl (hA x (m : Int)) 2 rfl (hA_size _ _) ip zp Try.underlying22 ip1 ip2 ip3 ip5 (by omega) (by omega) ?_; clear ip1 ip2 ip3 ip4 ip5) | ((with_reducible refine at_append 22 ?_); refine wpList_append_row1 rfl _ _ rfl Try.underlying22 info_hold (by omega) (hA_size _ _) (hA_all _ _) w5.heap.size u14 (tm pp j) _ rfl HO.out rfl (by omega) HX.out.size ?_; intro v8 w8 ho8 hg8 hq8; replace ho8 := Lib.hid ho8; replace hg8 := Lib.hid hg8; replace hq8 := Lib.hid hq8))
              go_roundg (k - (j + 1))
              case measure => omega
              case rel => exact ⟨j + 1, by omega, rfl, by go_num, by rw [HR1.out, HT2.out]; exact ho8.out, (below_alloc HX.out _).grown hg8.out (by have := HX.out.size; simp; omega) hq8.out⟩
            · have hpi : ¬ 0 < (m : Int) := by omega
              have HR1 := Lib.hid (show flat (tR A pp (j + 1)) (tm pp (j + 1)) = flat (tR A pp j) (tm pp j) from by
                have e1 : tm pp (j + 1) = tm pp j := by rw [HT1.out, if_neg hp0]; rfl
                have e2 : tR A pp (j + 1) = tR A pp j := by
                  show (if 0 < pp j then snoc (tR A pp j) (tm pp j) (hA (A j) (pp j : Nat)) else tR A pp j) = _
                  rw [← hm, if_neg hp0]
                rw [e1, e2])
              have HT2 := Lib.hid (show tm pp (j + 1) = tm pp j from by rw [HT1.out, if_neg hp0]; rfl)
              clear hm c0 c1
              go_wp2
              go_roundg (k - (j + 1))
              case measure => omega
              case rel => exact ⟨j + 1, by omega, rfl, by go_num, by rw [HR1.out, HT2.out]; exact HO.out, HX.out⟩
          · obtain rfl : j = k := by omega
            go_wp2
            go_ret2
            exact ⟨⟨_, rfl, fun _ => by rw [← HPE.out]; exact own_weak HO.out hz5, fun h => absurd HTE.out.symm h⟩, below_then HB5.out HX.out⟩
end Go.Proofs.Yticdcdahehodkaa
/-! A struct of integers and bools as a key: it is as itself. No condition. -/
namespace Go.Proofs.Yticdcdahehodkaa
set_option linter.unusedVariables false
set_option linter.unusedSimpArgs false
open Go.RowKit

theorem mapM_ex {α β : Type} {f : α → Option β} : ∀ l : List α, (∀ x ∈ l, ∃ b, f x = some b) → ∃ bs, l.mapM f = some bs
  | [], _ => ⟨[], rfl⟩
  | x :: l, h => by
    obtain ⟨b, hb⟩ := h x (by simp)
    obtain ⟨bs, hbs⟩ := mapM_ex l (fun y hy => h y (by simp [hy]))
    exact ⟨b :: bs, by rw [List.mapM_cons, hb, hbs]; rfl⟩
theorem kl_int {d o : Nat} {t : TypeId} {k : IntKind} {cs : List Value} (hu : Try.prog.underlying t = some (.int k)) (hc : Try.prog.cellsOf t = 1) (h : IsN cs.toArray k o) :
    ∃ l, Try.prog.keyLits (d + 1) t ((cs.drop o).take (Try.prog.cellsOf t)) = some l := by
  obtain ⟨h1, h2⟩ := h
  have h1' : cs[o]? = some (.int k (N cs.toArray o)) := by simpa using h1
  have hlt : o < cs.length := (List.getElem?_eq_some_iff.1 h1').1
  have e : (cs.drop o).take 1 = [.int k (N cs.toArray o)] := by
    rw [List.drop_eq_getElem_cons hlt, List.take_succ_cons, List.take_zero, (List.getElem?_eq_some_iff.1 h1').2]
  rw [hc, e]
  unfold Program.keyLits
  rw [hu]
  have hw : (Lit.int k (N cs.toArray o)).wf = true := by simpa [Lit.wf] using h2
  simp [hw]
theorem kl_fields {d : Nat} {t : TypeId} {fs : Array Field} {cs : List Value} (ht : Try.prog.underlying t = some (.struct fs)) (hl : cs.length = Try.prog.cellsOf t) (hn : fs.all (·.name != "_") = true)
    (h : ∀ f ∈ fs.toList, ∃ l, Try.prog.keyLits d f.type ((cs.drop f.offset).take (Try.prog.cellsOf f.type)) = some l) : ∃ l, Try.prog.keyLits (d + 1) t cs = some l := by
  obtain ⟨bs, hb⟩ := mapM_ex fs.toList h
  unfold Program.keyLits
  rw [ht]
  simp only [hl, hn, and_self, if_true, hb]
  exact ⟨_, rfl⟩
theorem neq_keys {t : TypeId} {fs : Array Field} {A : Array Value} (ht : Try.prog.underlying t = some (.struct fs)) (hs : A.size = Try.prog.cellsOf t) (hk : Try.prog.keyTypeAt 4 t = true) (hl : ∃ l, Try.prog.keyLits 4 t A.toList = some l) (w : World) :
    (binOp .neq t (.agg A) (.agg A)).run Try.prog w = .ok (.bool false) w := by
  obtain ⟨l, hl⟩ := hl
  have hf : (Value.agg A).formed Try.prog t = true := by
    simp [Value.formed, ht, hs]
  obtain ⟨r, h1, h2⟩ := run_equalIn_deep (P := Try.prog) 9996 4 t hk w 4 4 (.agg A) (.agg A) l l hf hf hl hl
  rw [show (9996 + 4 : Nat) = 10000 from rfl] at h1
  rw [run_neq_struct, h1, h2.2 rfl]; rfl
section
variable {P : Program} {ops : Array Oper} {rest : List Oper} {o : Oper} {a : Act} {Q : Act → Prop}
/-- A whole aggregate is loaded, in a region that draws, whatever is frozen. -/
theorem q_load_fr {W : World} (hw : Region.wanted o (yielded ops a.tmps) = true) (ty : TypeId) (x : Operand) (ho : o.op = .load ty x)
    (g off : Nat) (hx : a.eval x = .pointer (some ⟨g, off, none⟩)) (t : TypeId) (cs : Array Value) (fr : Nat × Nat) (d : TypeDesc) (n : Nat) (hg : W.heap[g]? = some (.cells cs t fr))
    (hu : P.underlying ty = some d) (hd : (match d with | .struct _ | .array _ _ => true | _ => false) = true) (hi : (P.info? ty).map (·.size) = some n) (hn : off + n ≤ cs.size)
    (B : Array Value) (hB : cs.extract off (off + n) = B)
    (h : WQ P ops (fun w' => Below W.heap.size W w') Q rest (a.put o.dst (.agg B))) : WQ P ops (fun w' => Below W.heap.size W w') Q (o :: rest) a :=
  q_val (.agg B) hw (fun w hC => by
    unfold execOp
    simp only [ho, hx, Instr.loadAt, Instr.sureAddr, Sem.run_bind, Sem.run_pure, Result.andThen_ok, run_loadVar_part w g off t ty cs fr d n (kept hC hg) hu hd hi hn, hB]) h
end
end Go.Proofs.Yticdcdahehodkaa
/-! A slice built of named cells. No condition. -/
namespace Go.Proofs.Yticdcdahehodkaa
set_option linter.unusedVariables false
set_option linter.unusedSimpArgs false
open Go.RowKit

theorem at_buildSlice (T : TypeId) {P : Program} {ops : Array Oper} {Q : Exit → Act → World → Prop} {rest : List Oper} {a : Act} {w : World} {d : Option Tmp} {n : Nat} {ps : Array (Nat × Operand)} {ty : TypeId} {pos : String} {af : Array Edge} {gd : Option (Nat × Bool)}
    (h : wpList P ops Q (⟨d, .buildSlice T n ps, ty, pos, af, gd⟩ :: rest) a w) : wpList P ops Q (⟨d, .buildSlice T n ps, ty, pos, af, gd⟩ :: rest) a w := h
def sliceCells (P : Program) (e : TypeId) (len : Nat) (ps : List (Nat × Value)) : Option (Array Value) :=
  (P.info? e).bind fun ie => ie.zero.bind fun z => if len * ie.size > 2 ^ 24 ∨ len * ie.size = 0 then none else
    Instr.fill (fun i => some (i * ie.size, ie.size)) ((Array.range (len * ie.size)).map (z.cells[· % z.cells.size]!)) ps
theorem wpList_slice_named {P : Program} {ops : Array Oper} {rest : List Oper} {o : Oper} {a : Act} {w : World} {Q : Exit → Act → World → Prop} (hg : o.guard = none) (t e : TypeId) (len : Nat) (parts : Array (Nat × Operand)) (ho : o.op = .buildSlice t len parts)
    (B : Array Value) (hu : P.underlying t = some (.slice e)) (hf : sliceCells P e len (parts.map fun (i, x) => (i, a.eval x)).toList = some B)
    (h : wpList P ops Q rest (a.put o.dst (.slice (some ⟨w.heap.size, 0, none⟩) len len)) (w.alloc (.cells B e))) : wpList P ops Q (o :: rest) a w := by
  unfold sliceCells at hf
  cases hie : P.info? e with
  | none => simp [hie] at hf
  | some ie =>
    cases hz : ie.zero with
    | none => simp [hie, hz] at hf
    | some z =>
      simp only [hie, hz, Option.bind_some] at hf
      split at hf
      · simp at hf
      · rename_i hn
        exact wpList_buildSlice hg t e len parts ho B ie z hu hie hz (fun h => hn (Or.inl h)) (fun h => hn (Or.inr h)) hf h
end Go.Proofs.Yticdcdahehodkaa
