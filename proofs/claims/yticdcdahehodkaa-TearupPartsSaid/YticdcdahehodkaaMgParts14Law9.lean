/- Texts that Parts14Law stands on, one behind the other, part 9. Conditions: each theorem names its own. -/
import Derived.Test.YticdcdahehodkaaMgParts14Law8
import Derived.Laws.MakeOwn
/-! fixnum's Split: the parts of any total by any weights, or why there are none. Condition: the numbers fit their kinds. -/
namespace Go.Proofs.Yticdcdahehodkaa
set_option linter.unusedVariables false
set_option linter.unusedSimpArgs false
open Go.RowKit

theorem mk_row (t e : TypeId) (k : IntKind) (n : Nat) (ht : Try.prog.underlying t = some (.slice e)) (hi : (Try.prog.info? e).map (fun i => (i.zero, i.size, i.bytes)) = some (some (.int k 0), 1, 8)) (hn : n ≤ 100000) :
    ∃ R : Array Value, R.size = n ∧ (∀ i, i < n → R[i]? = some (.int k 0)) ∧ ∀ w, (Instr.makeSlice t (.int .i64 (n : Int)) (.int .i64 (n : Int))).run Try.prog w = .ok (.slice (some ⟨w.heap.size, 0, none⟩) n n) (w.alloc (.cells R e)) := by
  cases h : Try.prog.info? e with
  | none => simp [h] at hi
  | some i =>
    simp [h] at hi
    obtain ⟨h1, h2, h3⟩ := hi
    refine ⟨madeCells (Value.int k 0).cells n, size_madeCells _ _, fun j hj => ?_, fun w => ?_⟩
    · unfold madeCells
      rw [Array.getElem?_map, show (Array.range n)[j]? = some j by simp [hj]]
      simp [Value.cells, Nat.mod_one]
    · have := run_make (P := Try.prog) w t e i _ ht h h1 .i64 .i64 n n (by omega) (by omega) (by rw [h3]; omega) (by omega)
      simpa [h2] using this

/-- the error of a split -/
def splE (Z : Nat → Int) (n : Nat) (T : Int) : Int :=
  if 1000 < n then 3 else if T < 0 ∨ ∃ i, i < n ∧ Z i < 0 then 2 else if fitB (sumZ Z n) = false then 6 else if T = 0 then 0 else if sumZ Z n = 0 then 10 else 0
def wts (Z : Nat → Int) : Nat → Nat := fun i => (Z i).toNat
def splP (Z : Nat → Int) (n : Nat) (T : Int) (i : Nat) : Nat := prt (wts Z) n T.toNat i
/-- the row of a split's parts, in a block that was not there before -/
def SplV (Z : Nat → Int) (n : Nat) (T : Int) (s : Nat) (w' : World) (v : Value) : Prop :=
  (splE Z n T = 0 → ∃ g P, v = .slice (some ⟨g, 0, none⟩) n n ∧ s ≤ g ∧ w'.heap[g]? = some (.cells P 2 (0, 0)) ∧ P.size = n ∧ ∀ i, i < n → P[i]? = some (.int .i64 (splP Z n T i : Nat))) ∧ (splE Z n T ≠ 0 → v = .slice none 0 0)
def SplC (a : Option Addr) (n cap : Nat) (Z : Nat → Int) (T : Int) (w : World) : Prop :=
  Calls Try.prog 23 #[.int .i64 T, .slice a n cap] w fun e w' => (∃ v, e = .returned (.tuple #[v, .int .i64 (splE Z n T)]) ∧ SplV Z n T w.heap.size w' v) ∧ Below w.heap.size w w'
theorem wts_sum {Z : Nat → Int} : ∀ n, (∀ i, i < n → 0 ≤ Z i) → sumZ Z n = (sumN (wts Z) n : Nat)
  | 0, _ => rfl
  | n + 1, h => by
    show sumZ Z n + Z n = ((sumN (wts Z) n + wts Z n : Nat) : Int)
    have e := h n (by omega)
    rw [wts_sum n (fun i hi => h i (by omega))]
    unfold wts; omega

set_option maxRecDepth 100000 in
set_option maxHeartbeats 2000000 in
theorem split_long (a : Option Addr) (n cap : Nat) (Z : Nat → Int) (T : Int) (w : World) (hn : 1000 < n) : SplC a n cap Z T w := by
  have he : splE Z n T = 3 := by unfold splE; rw [if_pos hn]
  unfold SplC
  rw [he]
  have hni : (1000 : Int) < n := by omega
  have HE := Lib.hid he
  clear he
  go_enter Try.func23, Try.ntmps23
  go_wp2
  go_ret2
  exact ⟨⟨_, rfl, fun h => by rw [HE.out] at h; omega, fun _ => rfl⟩, Below.refl _ _⟩

set_option maxRecDepth 100000 in
set_option maxHeartbeats 2000000 in
theorem split_neg (a : Option Addr) (n cap : Nat) (Z : Nat → Int) (T : Int) (w : World) (hn : n ≤ 1000) (hA : Ints w a n Z) (h : T < 0 ∨ ∃ i, i < n ∧ Z i < 0) : SplC a n cap Z T w := by
  have he : splE Z n T = 2 := by unfold splE; rw [if_neg (by omega), if_pos h]
  have c := has_any a n cap Z w hA (by omega)
  unfold SplC
  rw [he]
  have hni : ¬ (1000 : Int) < n := by omega
  have HE := Lib.hid he
  clear he hA
  by_cases hT : T < 0
  · clear h c
    go_enter Try.func23, Try.ntmps23
    go_wp2
    go_ret2
    exact ⟨⟨_, rfl, fun h => by rw [HE.out] at h; omega, fun _ => rfl⟩, Below.refl _ _⟩
  · have HX := Lib.hid (h.resolve_left hT)
    clear h
    go_enter Try.func23, Try.ntmps23
    go_wp2_with (first | (go_at_call 31; (with_reducible refine (c).mono ?_); rintro e w1 ⟨⟨b, rfl, hb⟩, rfl⟩; obtain rfl := hb.2 HX.out; clear hb))
    go_ret2
    exact ⟨⟨_, rfl, fun h => by rw [HE.out] at h; omega, fun _ => rfl⟩, Below.refl _ _⟩

set_option maxRecDepth 100000 in
set_option maxHeartbeats 2000000 in
theorem split_over (a : Option Addr) (n cap : Nat) (Z : Nat → Int) (T : Int) (w : World) (hn : n ≤ 1000) (hF : ∀ i, F64 (Z i)) (hA : Ints w a n Z) (hT : 0 ≤ T) (hP : ∀ i, i < n → 0 ≤ Z i) (ho : fitB (sumZ Z n) = false) : SplC a n cap Z T w := by
  have c := has_any a n cap Z w hA (by omega)
  have cm := fsum_any a n cap Z w hF hA (by omega)
  have hT0 : ¬ T < 0 := by omega
  have hni : ¬ (1000 : Int) < n := by omega
  have HX := Lib.hid (show ¬ ∃ i, i < n ∧ Z i < 0 from fun ⟨i, h1, h2⟩ => by have := hP i h1; omega)
  have he : splE Z n T = 6 := by unfold splE; rw [if_neg (by omega), if_neg (fun h => h.elim (by omega) HX.out), if_pos ho]
  have hb : fitE (sumZ Z n) = 6 := by
    have : ¬ (-9223372036854775808 ≤ sumZ Z n ∧ sumZ Z n ≤ 9223372036854775807) := fun h => by rw [(fit_yes h).1] at ho; cases ho
    exact (fit_no this).2.2
  rw [hb] at cm
  unfold SplC
  rw [he]
  have HE := Lib.hid he
  clear he hA hF hP ho hb
  generalize fitN (sumZ Z n) = m at *
  go_enter Try.func23, Try.ntmps23
  go_wp2_with (first | (go_at_call 31; (with_reducible refine (c).mono ?_); rintro e w1 ⟨⟨b, rfl, hb⟩, rfl⟩; obtain rfl : b = false := (by cases b; rfl; exact absurd (hb.1 rfl) HX.out); clear hb) | (go_at_call 26; (with_reducible refine (cm).mono ?_); rintro e w1 ⟨rfl, rfl⟩))
  go_ret2
  exact ⟨⟨_, rfl, fun h => by rw [HE.out] at h; omega, fun _ => rfl⟩, Below.refl _ _⟩

set_option maxRecDepth 100000 in
set_option maxHeartbeats 2000000 in
theorem split_zero (a : Option Addr) (n cap : Nat) (Z : Nat → Int) (w : World) (hn : n ≤ 1000) (hF : ∀ i, F64 (Z i)) (hA : Ints w a n Z) (hP : ∀ i, i < n → 0 ≤ Z i) (hv : -9223372036854775808 ≤ sumZ Z n ∧ sumZ Z n ≤ 9223372036854775807) : SplC a n cap Z 0 w := by
  obtain ⟨T, hT⟩ : ∃ T : Int, T = 0 := ⟨0, rfl⟩
  have c := has_any a n cap Z w hA (by omega)
  have cm := fsum_any a n cap Z w hF hA (by omega)
  have hT0 : ¬ T < 0 := by omega
  have hni : ¬ (1000 : Int) < n := by omega
  have HX := Lib.hid (show ¬ ∃ i, i < n ∧ Z i < 0 from fun ⟨i, h1, h2⟩ => by have := hP i h1; omega)
  clear hT0
  have hb := fit_yes (v := sumZ Z n) hv
  have hE : fitB (sumZ Z n) ≠ false := by rw [hb.1]; simp
  rw [hb.2.1, hb.2.2] at cm
  obtain ⟨R, r1, r2, hmk⟩ := mk_row 48 2 .i64 n Try.underlying48 (by kernel_rfl) (by omega)
  have HR := Lib.hid (And.intro r1 r2)
  clear r1 r2
  have he : splE Z n 0 = 0 := by unfold splE; rw [if_neg (by omega), if_neg (fun h => h.elim (by omega) HX.out), if_neg hE, if_pos rfl]
  unfold SplC
  rw [he]
  have HE := Lib.hid he
  clear he hA hF hP hb hE hT hv
  generalize sumZ Z n = m at *
  go_enter Try.func23, Try.ntmps23
  go_wp2_with (first | (go_at_call 31; (with_reducible refine (c).mono ?_); rintro e w1 ⟨⟨b, rfl, hb⟩, rfl⟩; obtain rfl : b = false := (by cases b; rfl; exact absurd (hb.1 rfl) HX.out); clear hb) | (go_at_call 26; (with_reducible refine (cm).mono ?_); rintro e w1 ⟨rfl, rfl⟩))
  go_ret2
  exact ⟨⟨_, rfl, fun _ => ⟨_, R, rfl, Nat.le_refl _, heap_alloc_new _ _, HR.out.1, fun i hi => by rw [HR.out.2 i hi, show splP Z n 0 i = 0 from prt_zero _ _ _]; rfl⟩, fun h => absurd HE.out h⟩, below_new _ _⟩

set_option maxRecDepth 100000 in
set_option maxHeartbeats 2000000 in
theorem split_none (a : Option Addr) (n cap : Nat) (Z : Nat → Int) (T : Int) (w : World) (hn : n ≤ 1000) (hF : ∀ i, F64 (Z i)) (hA : Ints w a n Z) (hT : 0 ≤ T) (hz : T ≠ 0) (hP : ∀ i, i < n → 0 ≤ Z i) (h0 : sumZ Z n = 0) : SplC a n cap Z T w := by
  have c := has_any a n cap Z w hA (by omega)
  have cm := fsum_any a n cap Z w hF hA (by omega)
  have hT0 : ¬ T < 0 := by omega
  have hni : ¬ (1000 : Int) < n := by omega
  have HX := Lib.hid (show ¬ ∃ i, i < n ∧ Z i < 0 from fun ⟨i, h1, h2⟩ => by have := hP i h1; omega)
  have hb := fit_yes (v := sumZ Z n) (by omega)
  have hE : fitB (sumZ Z n) ≠ false := by rw [hb.1]; simp
  rw [hb.2.1, hb.2.2, h0] at cm
  obtain ⟨R, r1, r2, hmk⟩ := mk_row 48 2 .i64 n Try.underlying48 (by kernel_rfl) (by omega)
  clear r1 r2
  have he : splE Z n T = 10 := by unfold splE; rw [if_neg (by omega), if_neg (fun h => h.elim (by omega) HX.out), if_neg hE, if_neg hz, if_pos h0]
  unfold SplC
  rw [he]
  have HE := Lib.hid he
  clear he hA hF hP h0 hb hE
  go_enter Try.func23, Try.ntmps23
  go_wp2_with (first | (go_at_call 31; (with_reducible refine (c).mono ?_); rintro e w1 ⟨⟨b, rfl, hb⟩, rfl⟩; obtain rfl : b = false := (by cases b; rfl; exact absurd (hb.1 rfl) HX.out); clear hb) | (go_at_call 26; (with_reducible refine (cm).mono ?_); rintro e w1 ⟨rfl, rfl⟩))
  go_ret2
  exact ⟨⟨_, rfl, fun h => by rw [HE.out] at h; omega, fun _ => rfl⟩, below_new _ _⟩
end Go.Proofs.Yticdcdahehodkaa
/-! fixnum's Split where there are parts. Condition: the numbers fit their kinds. -/
namespace Go.Proofs.Yticdcdahehodkaa
set_option linter.unusedVariables false
set_option linter.unusedSimpArgs false
open Go.RowKit

theorem wrapN64 {n : Nat} {z : Int} (hz : z = (n : Int)) (h : n ≤ 9223372036854775807) : IntKind.i64.wrap z = (n : Int) := by rw [IntKind.wrap_i64]; omega
/-- the first p in order -/
def tkd (d : Nat → Nat) : Nat → Nat → Bool
  | 0 => fun _ => false
  | p + 1 => fun j => decide (j = d p) || tkd d p j
theorem tkd_iff (d : Nat → Nat) : ∀ (p j : Nat), tkd d p j = true ↔ ∃ i, i < p ∧ d i = j
  | 0, j => ⟨(fun h => by cases h), (fun ⟨i, h, _⟩ => by omega)⟩
  | p + 1, j => by
    show (decide (j = d p) || tkd d p j) = true ↔ _
    rw [Bool.or_eq_true, decide_eq_true_iff, tkd_iff d p j]
    constructor
    · rintro (rfl | ⟨i, h1, h2⟩)
      · exact ⟨p, by omega, rfl⟩
      · exact ⟨i, by omega, h2⟩
    · rintro ⟨i, h1, h2⟩
      by_cases e : i = p
      · subst e; exact .inl h2.symm
      · exact .inr ⟨i, by omega, h2⟩
theorem perm_onto {n : Nat} {d : Nat → Nat} (h : PermOn 0 n id d) : (∀ i, i < n → d i < n) ∧ (∀ i j, d i = d j → i = j) ∧ ∀ y, y < n → ∃ i, i < n ∧ d i = y := by
  obtain ⟨s, t, h1, h2, h3, h4⟩ := h
  have e : ∀ k, d k = s k := fun k => h4 k
  refine ⟨fun i hi => ?_, fun i j hij => ?_, fun y hy => ⟨t y, ?_, by rw [e, h1]⟩⟩
  · rw [e]
    apply Classical.byContradiction; intro hc
    have e1 := h3 (s i) (by omega)
    have e2 := congrArg t e1
    rw [h2, h2] at e2
    omega
  · rw [e, e] at hij
    have e2 := congrArg t hij
    rwa [h2, h2] at e2
  · apply Classical.byContradiction; intro hc
    have e1 := h3 (t y) (by omega)
    rw [h1] at e1
    omega
theorem tkd_all {K : Nat → Int} {n : Nat} {d : Nat → Nat} (hp : PermOn 0 n id d) (hs : Srt K 0 n d) : ∀ p, p ≤ n → Clo K n (tkd d p) ∧ cnt (tkd d p) n = p
  | 0, _ => ⟨(fun i j _ _ h _ => by cases h), cnt_none n⟩
  | p + 1, h => by
    obtain ⟨h1, h2⟩ := tkd_all hp hs p (by omega)
    obtain ⟨o1, o2, o3⟩ := perm_onto hp
    have hf : tkd d p (d p) = false := by
      rw [Bool.eq_false_iff]; intro ht
      obtain ⟨i, hi, e⟩ := (tkd_iff d p (d p)).1 ht
      have := o2 _ _ e; omega
    obtain ⟨h3, h4⟩ := h1.next (o1 p (by omega)) hf (fun y hy hyt => by
      obtain ⟨i, hi, rfl⟩ := o3 y hy
      have hpi : p ≤ i := by
        apply Classical.byContradiction; intro hc
        rw [(tkd_iff d p (d i)).2 ⟨i, by omega, rfl⟩] at hyt; cases hyt
      by_cases e : i = p
      · subst e; exact .inl rfl
      · exact .inr (hs p i (by omega) (by omega) hi))
    exact ⟨h3, h4.trans (by rw [h2])⟩

/-- the four blocks that a split makes -/
structure SplW (w wr : World) (gp gu gv go n k : Nat) (W : Nat → Nat) (T : Nat) : Prop where
  below : Below w.heap.size w wr
  p : ∃ P, wr.heap[gp]? = some (.cells P 2 (0, 0)) ∧ P.size = n ∧ ∀ j, j < k → P[j]? = some (.int .i64 (flo W n T j : Nat))
  u : ∃ U, wr.heap[gu]? = some (.cells U 55 (0, 0)) ∧ U.size = n ∧ ∀ j, j < k → U[j]? = some (.int .u64 (res W n T j : Nat))
  v : wr.heap[gv]? = some (.cells #[.slice (some ⟨gu, 0, none⟩) n n] 65 (0, 0))
  o : ∃ O, wr.heap[go]? = some (.cells O 3 (0, 0)) ∧ O.size = n ∧ ∀ j, j < k → O[j]? = some (.int .i64 (j : Nat))
theorem set_at {A : Array Value} {n k : Nat} {v : Value} {f : Nat → Value} (hs : A.size = n) (hk : k < n) (h : ∀ j, j < k → A[j]? = some (f j)) (hv : v = f k) : (A.setIfInBounds k v).size = n ∧ ∀ j, j < k + 1 → (A.setIfInBounds k v)[j]? = some (f j) := by
  refine ⟨by simp [hs], fun j hj => ?_⟩
  by_cases e : j = k
  · subst e; rw [Array.getElem?_setIfInBounds_self_of_lt (by omega), hv]
  · rw [Array.getElem?_setIfInBounds_ne (by omega)]; exact h j (by omega)
theorem below_setS {w wr : World} {b g i : Nat} {v : Value} (h : Below b w wr) (hg : b ≤ g) : Below b w (wr.setCell ⟨g, i, none⟩ v) :=
  ⟨h.os, h.tape, h.output, by simpa [World.setCell] using h.size, fun k hk => by rw [heap_setCell_other wr ⟨g, i, none⟩ k v (show k ≠ g by omega)]; exact h.block k hk⟩
theorem SplW.next {w wr : World} {gp gu gv go n k T : Nat} {W : Nat → Nat} {a b c : Value} (h : SplW w wr gp gu gv go n k W T) (hk : k < n) (h1 : w.heap.size ≤ gp) (h2 : gp < gu) (h3 : gu < gv) (h4 : gv < go)
    (ha : a = .int .i64 (flo W n T k : Nat)) (hb : b = .int .u64 (res W n T k : Nat)) (hc : c = .int .i64 (k : Nat)) :
    SplW w (((wr.setCell ⟨gp, k, none⟩ a).setCell ⟨gu, k, none⟩ b).setCell ⟨go, k, none⟩ c) gp gu gv go n (k + 1) W T := by
  obtain ⟨P, p1, p2, p3⟩ := h.p
  obtain ⟨U, u1, u2, u3⟩ := h.u
  obtain ⟨O, o1, o2, o3⟩ := h.o
  refine ⟨below_setS (below_setS (below_setS h.below (by omega)) (by omega)) (by omega), ⟨_, heap_set_other (heap_set_other (heap_set p1) (by omega)) (by omega), set_at p2 hk p3 ha⟩, ⟨_, heap_set_other (heap_set (heap_set_other u1 (by omega))) (by omega), set_at u2 hk u3 hb⟩,
    heap_set_other (heap_set_other (heap_set_other h.v (by omega)) (by omega)) (by omega), ⟨_, heap_set (heap_set_other (heap_set_other o1 (by omega)) (by omega)), set_at o2 hk o3 hc⟩⟩
theorem SplW.drew {w wr : World} {gp gu gv go n k T : Nat} {W : Nat → Nat} (h : SplW w wr gp gu gv go n k W T) : SplW w wr.drew gp gu gv go n k W T := ⟨Below.drew h.below, h.p, h.u, h.v, h.o⟩
theorem SplW.after {w wr w' : World} {gp gu gv go n k T : Nat} {W : Nat → Nat} (h : SplW w wr gp gu gv go n k W T) (hb : Below wr.heap.size wr w') : SplW w w' gp gu gv go n k W T := by
  obtain ⟨P, p1, p2, p3⟩ := h.p
  obtain ⟨U, u1, u2, u3⟩ := h.u
  obtain ⟨O, o1, o2, o3⟩ := h.o
  exact ⟨below_then h.below hb, ⟨P, Yticdcdahehodkaa.kept hb p1, p2, p3⟩, ⟨U, Yticdcdahehodkaa.kept hb u1, u2, u3⟩, Yticdcdahehodkaa.kept hb h.v, ⟨O, Yticdcdahehodkaa.kept hb o1, o2, o3⟩⟩
/-- the cells that a round writes -/
theorem SplW.cells {w wr : World} {gp gu gv go n k T : Nat} {W : Nat → Nat} (h : SplW w wr gp gu gv go n k W T) (hk : k < n) (h2 : gp < gu) (h3 : gu < gv) (h4 : gv < go) (a b : Value) :
    (∃ x, wr.cell? ⟨gp, k, none⟩ = some x) ∧ (∃ x, (wr.setCell ⟨gp, k, none⟩ a).cell? ⟨gu, k, none⟩ = some x) ∧ (∃ x, ((wr.setCell ⟨gp, k, none⟩ a).setCell ⟨gu, k, none⟩ b).cell? ⟨go, k, none⟩ = some x) ∧
    wr.frozen? ⟨gp, k, none⟩ = false ∧ wr.frozen? ⟨gu, k, none⟩ = false ∧ wr.frozen? ⟨go, k, none⟩ = false ∧ wr.cell? ⟨gv, 0, none⟩ = some (.slice (some ⟨gu, 0, none⟩) n n) := by
  obtain ⟨P, p1, p2, p3⟩ := h.p
  obtain ⟨U, u1, u2, u3⟩ := h.u
  obtain ⟨O, o1, o2, o3⟩ := h.o
  have u4 := heap_set_other (g := gp) (i := k) (v := a) u1 (by omega)
  have o4 := heap_set_other (g := gu) (i := k) (v := b) (heap_set_other (g := gp) (i := k) (v := a) o1 (by omega)) (by omega)
  refine ⟨⟨_, ((cells_of p1).1 k).trans (Array.getElem?_eq_getElem (by omega))⟩, ⟨_, ((cells_of u4).1 k).trans (Array.getElem?_eq_getElem (by omega))⟩, ⟨_, ((cells_of o4).1 k).trans (Array.getElem?_eq_getElem (by omega))⟩,
    (cells_of p1).2.1 k, (cells_of u1).2.1 k, (cells_of o1).2.1 k, (cells_of h.v).1 0⟩

structure SplX (w wr : World) (gp go n p : Nat) (d W : Nat → Nat) (T : Nat) : Prop where
  below : Below w.heap.size w wr
  p : ∃ P, wr.heap[gp]? = some (.cells P 2 (0, 0)) ∧ P.size = n ∧ ∀ j, j < n → P[j]? = some (.int .i64 (flo W n T j + b01 (tkd d p j) : Nat))
  o : ∃ O, wr.heap[go]? = some (.cells O 3 (0, 0)) ∧ n ≤ O.size ∧ ∀ j, j < n → O[j]? = some (.int .i64 (d j))
theorem SplX.next {w wr : World} {gp go n p T : Nat} {d W : Nat → Nat} {v : Value} (h : SplX w wr gp go n p d W T) (h1 : w.heap.size ≤ gp) (h2 : gp < go) (hx : d p < n) (hf : tkd d p (d p) = false) (hv : v = .int .i64 (flo W n T (d p) + 1 : Nat)) :
    SplX w (wr.setCell ⟨gp, d p, none⟩ v) gp go n (p + 1) d W T := by
  obtain ⟨P, p1, p2, p3⟩ := h.p
  obtain ⟨O, o1, o2, o3⟩ := h.o
  refine ⟨below_setS h.below h1, ⟨_, heap_set p1, by simp [p2], fun j hj => ?_⟩, ⟨O, heap_set_other o1 (by omega), o2, o3⟩⟩
  by_cases e : j = d p
  · subst e
    rw [Array.getElem?_setIfInBounds_self_of_lt (by omega), hv, show tkd d (p + 1) (d p) = true from by show (decide (d p = d p) || _) = true; simp]
    rfl
  · rw [Array.getElem?_setIfInBounds_ne (by omega), show tkd d (p + 1) j = tkd d p j from by show (decide (j = d p) || _) = _; simp [e]]
    exact p3 j hj

set_option maxRecDepth 100000 in
set_option maxHeartbeats 4000000 in
theorem split_parts (a : Option Addr) (n cap : Nat) (Z : Nat → Int) (T S : Nat) (w : World) (hn : n ≤ 1000) (hF : ∀ i, F64 (Z i)) (hA : Ints w a n Z) (hT : 0 < T) (hTb : T ≤ 9223372036854775807) (hP : ∀ i, i < n → 0 ≤ Z i) (hS0 : 0 < S) (hSb : S ≤ 9223372036854775807) (hS : sumN (wts Z) n = S) :
    Calls Try.prog 23 #[.int .i64 T, .slice a n cap] w fun e w' => (∃ g P, e = .returned (.tuple #[.slice (some ⟨g, 0, none⟩) n n, .int .i64 0]) ∧ w.heap.size ≤ g ∧ w'.heap[g]? = some (.cells P 2 (0, 0)) ∧ P.size = n ∧ ∀ i, i < n → P[i]? = some (.int .i64 (prt (wts Z) n T i : Nat))) ∧ Below w.heap.size w w' := by
  have c := has_any a n cap Z w hA (by omega)
  have cm := fsum_any a n cap Z w hF hA (by omega)
  have HX := Lib.hid (show ¬ ∃ i, i < n ∧ Z i < 0 from fun ⟨i, h1, h2⟩ => by have := hP i h1; omega)
  rw [wts_sum n hP, hS] at cm
  have hb := fit_yes (v := (S : Int)) (by omega)
  rw [hb.2.1, hb.2.2] at cm
  obtain ⟨RP, rp1, rp2, hmp⟩ := mk_row 48 2 .i64 n Try.underlying48 (by kernel_rfl) (by omega)
  obtain ⟨RU, ru1, ru2, hmu⟩ := mk_row 65 55 .u64 n Try.underlying65 (by kernel_rfl) (by omega)
  obtain ⟨RO, ro1, ro2, hmo⟩ := mk_row 52 3 .i64 n Try.underlying52 (by kernel_rfl) (by omega)
  have HRP := Lib.hid rp1
  have HRU := Lib.hid ru1
  have HRO := Lib.hid ro1
  have HA := Lib.hid hA
  have HF := Lib.hid hF
  have HPP := Lib.hid hP
  have HS := Lib.hid hS
  have hTi : (T : Int) ≤ 9223372036854775807 := by omega
  have hT0 : ¬ (T : Int) < 0 := by omega
  have hTz : ((T : Int) == 0) = false := by rw [beq_eq_false_iff_ne]; omega
  have hSz : ((S : Int) == 0) = false := by rw [beq_eq_false_iff_ne]; omega
  have hni : ¬ (1000 : Int) < n := by omega
  have wT : IntKind.u64.wrap (T : Int) = (T : Int) := by rw [IntKind.wrap_u64]; omega
  have wS : IntKind.u64.wrap (S : Int) = (S : Int) := by rw [IntKind.wrap_u64]; omega
  have HN := Lib.hid (And.intro hTb hSb)
  clear hb rp1 rp2 ru1 ru2 ro1 ro2 hA hF hP hS hTb hSb
  go_enter Try.func23, Try.ntmps23
  go_wp2_with (first | (go_at_call 31; (with_reducible refine (c).mono ?_); rintro e w1 ⟨⟨b, rfl, hb⟩, rfl⟩; obtain rfl : b = false := (by cases b; rfl; exact absurd (hb.1 rfl) HX.out); clear hb) | (go_at_call 26; (with_reducible refine (cm).mono ?_); rintro e w1 ⟨rfl, rfl⟩))
  obtain ⟨gp, hgp⟩ : ∃ g, g = w.heap.size := ⟨_, rfl⟩
  obtain ⟨gu, hgu⟩ : ∃ g, g = gp + 1 := ⟨_, rfl⟩
  obtain ⟨gv, hgv⟩ : ∃ g, g = gu + 1 := ⟨_, rfl⟩
  obtain ⟨go, hgo⟩ : ∃ g, g = gv + 1 := ⟨_, rfl⟩
  rw [← hgp, ← hgu, ← hgv, ← hgo]
  obtain ⟨w3, hw3⟩ : ∃ w3, w3 = (((w.alloc (.cells RP 2)).alloc (.cells RU 55)).alloc (.cells #[.slice (some ⟨gu, 0, none⟩) n n] 65)).alloc (.cells RO 3) := ⟨_, rfl⟩
  rw [← hw3]
  have W0 := Lib.hid (show SplW w w3 gp gu gv go n 0 (wts Z) T from by
    subst hw3; subst hgo; subst hgv; subst hgu; subst hgp
    refine ⟨below_alloc (below_alloc (below_alloc (below_new _ _) _) _) _, ⟨RP, (by repeat (first | exact heap_new (by simp; done) | refine heap_up ?_)), HRP.out, fun j hj => by omega⟩, ⟨RU, (by repeat (first | exact heap_new (by simp; done) | refine heap_up ?_)), HRU.out, fun j hj => by omega⟩, (by repeat (first | exact heap_new (by simp; done) | refine heap_up ?_)), ⟨RO, (by repeat (first | exact heap_new (by simp; done) | refine heap_up ?_)), HRO.out, fun j hj => by omega⟩⟩)
  have HG := Lib.hid (show w.heap.size ≤ gp ∧ gp < gu ∧ gu < gv ∧ gv < go from by omega)
  clear hw3 hgo hgv hgu hgp HRP HRU HRO hmp hmu hmo c
  go_loopg [10, 55] n (fun gh vl vi wr => ∃ k : Nat, k ≤ n ∧ gh = n - k ∧ vl = .int .u64 ((T - sumN (flo (wts Z) n T) k : Nat) : Int) ∧ vi = .int .i64 k ∧ SplW w wr gp gu gv go n k (wts Z) T)
  case atStart => exact ⟨0, by omega, by omega, by simp [sumN], rfl, W0.out⟩
  case round =>
    clear W0
    obtain ⟨k, hk, rfl, rfl, rfl, hW⟩ := hrel
    have HW := Lib.hid hW
    clear hW
    by_cases hlt : k < n
    · obtain ⟨g, off, A, t, fr, rfl, hgA, hz⟩ := (HA.out.kept (HW.out.below)) k hlt
      have hcA := cellF hgA
      obtain ⟨x, hx⟩ : ∃ x, x = wts Z k := ⟨_, rfl⟩
      have hxz : Z k = (x : Int) := by have := HPP.out k hlt; rw [hx]; unfold wts; omega
      have hx64 := HF.out k
      rw [hxz] at hz hx64
      unfold F64 at hx64
      have hTb := HN.out.1
      have hSb := HN.out.2
      have hxS : x ≤ S := by rw [hx, ← HS.out]; exact sumN_one (wts Z) hlt
      have wx : IntKind.u64.wrap (x : Int) = (x : Int) := by rw [IntKind.wrap_u64]; omega
      obtain ⟨q, hq⟩ : ∃ q, q = flo (wts Z) n T k := ⟨_, rfl⟩
      obtain ⟨r, hr⟩ : ∃ r, r = res (wts Z) n T k := ⟨_, rfl⟩
      have hqT : q ≤ T := by rw [hq]; exact flo_le (by rw [HS.out]; exact hS0) hlt
      have hq' : q = T * x / S := by rw [hq, hx, ← HS.out]; rfl
      have hr' : r = T * x % S := by rw [hr, hx, ← HS.out]; rfl
      obtain ⟨l, hl⟩ : ∃ l, l = T - sumN (flo (wts Z) n T) k := ⟨_, rfl⟩
      obtain ⟨l2, hl2⟩ : ∃ l, l = T - sumN (flo (wts Z) n T) (k + 1) := ⟨_, rfl⟩
      have hsum : sumN (flo (wts Z) n T) (k + 1) ≤ T := flo_part (by rw [HS.out]; exact hS0) (by omega)
      have hll : l = l2 + q := by
        have e : sumN (flo (wts Z) n T) (k + 1) = sumN (flo (wts Z) n T) k + flo (wts Z) n T k := rfl
        rw [← hq] at e
        omega
      have hlT : l ≤ T := by omega
      have wl : IntKind.u64.wrap ((l : Int) - (q : Int)) = (l2 : Int) := by rw [IntKind.wrap_u64]; omega
      have wq : IntKind.i64.wrap (q : Int) = (q : Int) := by rw [IntKind.wrap_i64]; omega
      have sm := fun w => Try.bits_Mul64 T x (by omega) (by omega) w
      obtain ⟨hi, hhi⟩ : ∃ h, h = T * x / 18446744073709551616 := ⟨_, rfl⟩
      obtain ⟨lo, hlo⟩ : ∃ h, h = T * x % 18446744073709551616 := ⟨_, rfl⟩
      have hPe : hi * 18446744073709551616 + lo = T * x := by omega
      have hhS : hi < S := by
        have h1 : T * x ≤ T * S := Nat.mul_le_mul_left _ hxS
        have h2 : T * S < 18446744073709551616 * S := Nat.mul_lt_mul_of_pos_right (by omega) hS0
        rw [hhi, Nat.div_lt_iff_lt_mul (by omega), Nat.mul_comm S]
        omega
      have sd := fun w => div64_any hi lo S w hhS (by omega) (by omega)
      rw [hPe, ← hq', ← hr'] at sd
      rw [← hhi, ← hlo] at sm
      rw [← hl]
      have HQ := Lib.hid (And.intro hq (And.intro hr hl2))
      have hG := HG.out
      have hki : (k : Int) < n := by omega
      clear hl hl2 hsum hll hq hr hq' hr' hhi hlo hPe hhS hx hxz hx64 hTb hSb hlT hqT hxS
      go_wp2_with (first | (go_at_call 33; (with_reducible refine (sm _).mono ?_); rintro e w1 ⟨rfl, hw1⟩; obtain rfl := hw1.symm))
      refine (sd _).mono ?_
      rintro e w5 ⟨rfl, hb5⟩
      have W5 := Lib.hid (HW.out.after hb5)
      clear hcA HW hb5 hgA sd sm
      obtain ⟨⟨y1, c1⟩, ⟨y2, c2⟩, ⟨y3, c3⟩, f1, f2, f3, cv⟩ := W5.out.cells hlt hG.2.1 hG.2.2.1 hG.2.2.2 (.int .i64 (q : Int)) (.int .u64 (r : Int))
      go_wp2
      go_region
      obtain ⟨w6, hw6⟩ : ∃ w6, w6 = (((w5.setCell ⟨gp, k, none⟩ (.int .i64 (q : Int))).setCell ⟨gu, k, none⟩ (.int .u64 (r : Int))).setCell ⟨go, k, none⟩ (.int .i64 (k : Int))).drew := ⟨_, rfl⟩
      have W6 := Lib.hid (show SplW w w6 gp gu gv go n (k + 1) (wts Z) T from by
        rw [hw6]; exact (W5.out.next hlt hG.1 hG.2.1 hG.2.2.1 hG.2.2.2 (by rw [HQ.out.1]) (by rw [HQ.out.2.1]) rfl).drew)
      rw [← hw6]
      clear hw6 c1 c2 c3 cv f1 f2 f3 W5
      go_wp2
      go_roundg (n - (k + 1))
      case measure => omega
      case rel => exact ⟨k + 1, by omega, rfl, by rw [← HQ.out.2.2], by go_num, W6.out⟩
    · obtain rfl : k = n := by omega
      have hU := HW.out.u
      have hO := HW.out.o
      have hgv := HW.out.v
      have hG := HG.out
      obtain ⟨U, u1, u2, u3⟩ := hU
      obtain ⟨O, o1, o2, o3⟩ := hO
      have hcmp : CmpAt wr go k (rcf (res (wts Z) k T)) (.pointer (some ⟨gv, 0, none⟩)) := fun W hgr x y hx hy =>
        cmp_any gv gu k x y (res (wts Z) k T) U _ _ _ _ _ W (by rw [hgr.block gv ((Array.getElem?_eq_some_iff.1 hgv).1) (by intro h; injection h with h; omega)]; exact hgv) rfl (by rw [hgr.block gu ((Array.getElem?_eq_some_iff.1 u1).1) (by intro h; injection h with h; omega)]; exact u1) u3 hx hy
      have hrow : RowI wr wr go k id := ⟨⟨rfl, rfl, rfl, Nat.le_refl _, fun _ _ _ => rfl⟩, ⟨O, o1, by omega, o3⟩, fun _ h => h, by omega⟩
      have cs := sorted_any go k k (rkey (wts Z) k T) (rcf (res (wts Z) k T)) (.pointer (some ⟨gv, 0, none⟩)) wr wr (fun x y => rcf_key _ x y) hcmp hrow
      have hS0' : 0 < sumN (wts Z) k := by rw [HS.out]; exact hS0
      obtain ⟨L, hL⟩ : ∃ L, L = lef (wts Z) k T := ⟨_, rfl⟩
      have hLn : L ≤ k := by rw [hL]; exact lef_le hS0'
      rw [show T - sumN (flo (wts Z) k T) k = L from hL.symm]
      have HL := Lib.hid hL
      have hLi : (L : Int) ≤ (k : Int) := by omega
      clear hcmp hrow u1 u2 u3 o1 o2 o3 hgv hL
      go_wp2_with (first | (go_at_call 35; (with_reducible refine (cs).mono ?_); rintro e w7 ⟨rfl, d, hR7, hp7, hs7⟩; replace hR7 := Lib.hid hR7; replace hp7 := Lib.hid hp7; replace hs7 := Lib.hid hs7))
      have X0 := Lib.hid (show SplX w w7 gp go k 0 d (wts Z) T from by
        obtain ⟨P, p1, p2, p3⟩ := HW.out.p
        obtain ⟨O, o1, o2, o3⟩ := hR7.out.row
        refine ⟨HW.out.below.grown hR7.out.fr HW.out.below.size (fun k hk => by cases hk; omega), ⟨P, by rw [hR7.out.fr.block gp ((Array.getElem?_eq_some_iff.1 p1).1) (by intro h; injection h with h; omega)]; exact p1, p2, fun j hj => by rw [p3 j hj]; rfl⟩, ⟨O, o1, o2, o3⟩⟩)
      have hS0' : 0 < sumN (wts Z) k := by rw [HS.out]; exact hS0
      have TK := Lib.hid (tkd_all hp7.out hs7.out)
      have ON := Lib.hid (perm_onto hp7.out)
      have FIN := Lib.hid (show ∀ j, j < k → prt (wts Z) k T j = flo (wts Z) k T j + b01 (tkd d L j) from fun j hj => by
        unfold prt
        rw [← HL.out]
        congr 2
        rw [Bool.eq_iff_iff, decide_eq_true_iff]
        obtain ⟨g1, g2⟩ := TK.out L hLn
        exact rk_closed g1 g2 j hj)
      have PL := Lib.hid (fun (j : Nat) (hj : j < k) => prt_le (W := wts Z) (T := T) hS0' hj)
      clear HW hR7 hp7 hs7 HS HL cm HX HA HPP HF hS0'
      go_loopg [100] L (fun gh vp wr => ∃ p : Nat, p ≤ L ∧ gh = L - p ∧ vp = .int .i64 p ∧ SplX w wr gp go k p d (wts Z) T)
      case atStart => exact ⟨0, by omega, by omega, rfl, X0.out⟩
      case round =>
        clear X0
        obtain ⟨p, hp, rfl, rfl, hX⟩ := hrel
        have HX := Lib.hid hX
        clear hX
        by_cases hlt : p < L
        · obtain ⟨P, p1, p2, p3⟩ := HX.out.p
          obtain ⟨O, o1, o2, o3⟩ := HX.out.o
          obtain ⟨x, hx⟩ : ∃ x, x = d p := ⟨_, rfl⟩
          have hxk : x < k := by rw [hx]; exact ON.out.1 p (by omega)
          have hf : tkd d p x = false := by
            rw [Bool.eq_false_iff]; intro ht
            obtain ⟨i, hi, e⟩ := (tkd_iff d p x).1 ht
            have := ON.out.2.1 i p (by rw [e, hx]); omega
          have ht : tkd d L x = true := (tkd_iff d L x).2 ⟨p, hlt, hx.symm⟩
          obtain ⟨q, hq⟩ : ∃ q, q = flo (wts Z) k T x := ⟨_, rfl⟩
          have hq1 : q + 1 ≤ T := by
            have h1 := PL.out x hxk
            rw [FIN.out x hxk, ht, ← hq] at h1
            exact h1
          have c1 := ((cells_of o1).1 p).trans (o3 p (by omega))
          have c2 := ((cells_of p1).1 x).trans (p3 x hxk)
          have f2 := (cells_of p1).2.1 x
          rw [hf, ← hq, show b01 false = 0 from rfl, Nat.add_zero] at c2
          rw [← hx] at c1
          have hTb := HN.out.1
          have wq := wrapN64 (z := (q : Int) + 1) (n := q + 1) (by omega) (by omega)
          have hpi : (p : Int) < L := by omega
          have hpk : (p : Int) < k := by omega
          have hxi : (x : Int) < k := by omega
          have NX := Lib.hid (fun (v : Value) (hv : v = .int .i64 (q + 1 : Nat)) => show SplX w (wr.setCell ⟨gp, x, none⟩ v) gp go k (p + 1) d (wts Z) T from by
            rw [hx]
            have hG := HG.out
            exact HX.out.next hG.1 (by omega) (by rw [← hx]; exact hxk) (by rw [← hx]; exact hf) (by rw [hv, hq, hx]))
          clear p1 p2 p3 o1 o2 o3 hx hf ht hq hTb
          go_wp2
          go_roundg (L - (p + 1))
          case measure => omega
          case rel => exact ⟨p + 1, by omega, rfl, by go_num, NX.out _ rfl⟩
        · obtain rfl : p = L := by omega
          obtain ⟨P, p1, p2, p3⟩ := HX.out.p
          have HP1 := Lib.hid p1
          have HP2 := Lib.hid p2
          have HP3 := Lib.hid p3
          clear p1 p2 p3
          go_wp2
          go_ret2
          exact ⟨⟨gp, P, rfl, HG.out.1, HP1.out, HP2.out, fun i hi => by rw [HP3.out i hi, FIN.out i hi]⟩, HX.out.below⟩
end Go.Proofs.Yticdcdahehodkaa
/-! fixnum's Split of any total by any weights. Condition: the numbers fit their kinds. -/
namespace Go.Proofs.Yticdcdahehodkaa
set_option linter.unusedVariables false
set_option linter.unusedSimpArgs false
open Go.RowKit

theorem split_any (a : Option Addr) (n cap : Nat) (Z : Nat → Int) (T : Int) (w : World) (hF : ∀ i, F64 (Z i)) (hA : Ints w a n Z) (hT : F64 T) : SplC a n cap Z T w := by
  by_cases h1 : 1000 < n
  · exact split_long a n cap Z T w h1
  · by_cases h2 : T < 0 ∨ ∃ i, i < n ∧ Z i < 0
    · exact split_neg a n cap Z T w (by omega) hA h2
    · have hT0 : 0 ≤ T := by
        apply Classical.byContradiction; intro h; exact h2 (.inl (by omega))
      have hP : ∀ i, i < n → 0 ≤ Z i := fun i hi => by
        apply Classical.byContradiction; intro h; exact h2 (.inr ⟨i, hi, by omega⟩)
      by_cases h3 : fitB (sumZ Z n) = false
      · exact split_over a n cap Z T w (by omega) hF hA hT0 hP h3
      · have hv : -9223372036854775808 ≤ sumZ Z n ∧ sumZ Z n ≤ 9223372036854775807 := by
          unfold fitB at h3; simpa using h3
        by_cases h4 : T = 0
        · subst h4; exact split_zero a n cap Z w (by omega) hF hA hP hv
        · by_cases h5 : sumZ Z n = 0
          · exact split_none a n cap Z T w (by omega) hF hA hT0 h4 hP h5
          · have he : splE Z n T = 0 := by unfold splE; rw [if_neg h1, if_neg h2, if_neg h3, if_neg h4, if_neg h5]
            have hs := wts_sum n hP
            obtain ⟨t, rfl⟩ : ∃ t : Nat, T = (t : Int) := ⟨T.toNat, by omega⟩
            unfold F64 at hT
            have c := split_parts a n cap Z t (sumN (wts Z) n) w (by omega) hF hA (by omega) (by omega) hP (by omega) (by omega) rfl
            unfold SplC
            rw [he]
            refine c.mono ?_
            rintro e w' ⟨⟨g, P, rfl, h6, h7, h8, h9⟩, hb⟩
            exact ⟨⟨_, rfl, fun _ => ⟨g, P, rfl, h6, h7, h8, h9⟩, fun h => absurd he h⟩, hb⟩
/-- where there are parts -/
theorem splE_zero {Z : Nat → Int} {n : Nat} {T : Int} (h : splE Z n T = 0) : n ≤ 1000 ∧ 0 ≤ T ∧ (∀ i, i < n → 0 ≤ Z i) ∧ (T ≠ 0 → 0 < sumN (wts Z) n) ∧ sumZ Z n = (sumN (wts Z) n : Nat) ∧ sumZ Z n ≤ 9223372036854775807 := by
  unfold splE at h
  split at h
  · omega
  · rename_i h1
    split at h
    · omega
    · rename_i h2
      have hT0 : 0 ≤ T := by
        apply Classical.byContradiction; intro h; exact h2 (.inl (by omega))
      have hP : ∀ i, i < n → 0 ≤ Z i := fun i hi => by
        apply Classical.byContradiction; intro h; exact h2 (.inr ⟨i, hi, by omega⟩)
      split at h
      · omega
      · rename_i h3
        have hv : -9223372036854775808 ≤ sumZ Z n ∧ sumZ Z n ≤ 9223372036854775807 := by
          unfold fitB at h3; simpa using h3
        have e := wts_sum n hP
        refine ⟨by omega, hT0, hP, fun hT => ?_, e, hv.2⟩
        rw [if_neg hT] at h
        split at h
        · omega
        · omega
end Go.Proofs.Yticdcdahehodkaa
/-! tearup's Parts: what anybody gives up, or why nobody does. Condition: the numbers fit their kinds. -/
namespace Go.Proofs.Yticdcdahehodkaa
set_option linter.unusedVariables false
set_option linter.unusedSimpArgs false
open Go.RowKit

/-- what counts against the one who gives up -/
def tW (q : Int) (n : Nat) (Q : Nat → Int) : Nat → Int := fun i => if i < n then oppI q (Q i) else 0
/-- the error -/
def tE (q : Int) (n : Nat) (A Q : Nat → Int) : Int :=
  if 64 < n then 3 else if q = 0 ∨ inB q (-10000000) 10000000 = false ∨ hmay A Q n = false then 2 else if sumZ (tW q n Q) n < absI q then 7 else 0
/-- what holder i gives up -/
def tP (q : Int) (n : Nat) (Q : Nat → Int) : Nat → Nat := splP (tW q n Q) n (absI q)
/-- how many of the first k give up anything; and their rows -/
def tm (P : Nat → Nat) : Nat → Nat := cnt (fun i => decide (0 < P i))
def tR (A : Nat → Int) (P : Nat → Nat) : Nat → Nat → Array Value
  | 0 => fun _ => hA 0 0
  | k + 1 => if 0 < P k then snoc (tR A P k) (tm P k) (hA (A k) (P k : Nat)) else tR A P k
theorem tm_succ (P : Nat → Nat) (k : Nat) : tm P (k + 1) = tm P k + (if 0 < P k then 1 else 0) := by
  show tm P k + b01 (decide (0 < P k)) = _
  by_cases h : 0 < P k
  · rw [decide_eq_true h, if_pos h]; rfl
  · rw [decide_eq_false h, if_neg h]; rfl
theorem tR_size (A : Nat → Int) (P : Nat → Nat) : ∀ k j, (tR A P k j).size = 2
  | 0, j => rfl
  | k + 1, j => by
    unfold tR
    split
    · unfold snoc; split
      · rfl
      · exact tR_size A P k j
    · exact tR_size A P k j
theorem tR_all (A : Nat → Int) (P : Nat → Nat) : ∀ k j, (tR A P k j).all (·.oneCell') = true
  | 0, j => hA_all _ _
  | k + 1, j => by
    unfold tR
    split
    · unfold snoc; split
      · exact hA_all _ _
      · exact tR_all A P k j
    · exact tR_all A P k j
theorem absI_bd {q : Int} (h : -10000000 ≤ q ∧ q ≤ 10000000) : 0 ≤ absI q ∧ absI q ≤ 10000000 := by unfold absI; split <;> omega
theorem oppI_bd {q n : Int} (h : -10000000 ≤ n ∧ n ≤ 10000000) : 0 ≤ oppI q n ∧ oppI q n ≤ 10000000 := by
  unfold oppI; split
  · omega
  · exact absI_bd h
/-- the sum of what is on the other side -/
theorem tW_sum {q : Int} {n : Nat} {A Q : Nat → Int} (h : hmay A Q n = true) : ∀ k, k ≤ n → 0 ≤ sumZ (tW q n Q) k ∧ sumZ (tW q n Q) k ≤ 10000000 * k
  | 0, _ => by show (0 : Int) ≤ 0 ∧ (0 : Int) ≤ 10000000 * ((0 : Nat) : Int); omega
  | k + 1, hk => by
    have := tW_sum (q := q) h k (by omega)
    have h2 := oppI_bd (q := q) (hmay_at h (show k < n by omega)).2
    show 0 ≤ sumZ (tW q n Q) k + tW q n Q k ∧ sumZ (tW q n Q) k + tW q n Q k ≤ 10000000 * ((k + 1 : Nat) : Int)
    unfold tW at *; rw [if_pos (by omega)]; omega
theorem tW_bd {q : Int} {n : Nat} {A Q : Nat → Int} (h : hmay A Q n = true) (i : Nat) : 0 ≤ tW q n Q i ∧ tW q n Q i ≤ 10000000 := by
  unfold tW
  by_cases hi : i < n
  · rw [if_pos hi]; exact oppI_bd (hmay_at h hi).2
  · rw [if_neg hi]; omega
/-- the split goes through -/
theorem tW_split {q : Int} {n : Nat} {A Q : Nat → Int} (h : hmay A Q n = true) (hn : n ≤ 64) (hq0 : q ≠ 0) (hq : -10000000 ≤ q ∧ q ≤ 10000000) (hs : absI q ≤ sumZ (tW q n Q) n) : splE (tW q n Q) n (absI q) = 0 := by
  have h1 := tW_sum (q := q) h n (Nat.le_refl _)
  have h2 : 0 < absI q := by unfold absI; split <;> omega
  unfold splE
  rw [if_neg (by omega), if_neg (fun h3 => ?_), (fit_yes (v := sumZ (tW q n Q) n) (by omega)).1, if_neg (by simp), if_neg (by omega), if_neg (by omega)]
  rcases h3 with h3 | ⟨i, _, h3⟩
  · omega
  · have := (tW_bd (q := q) h i).1; omega

/-- the answer: nothing, and why; or rows of one's own -/
def TearV (q : Int) (n : Nat) (A Q : Nat → Int) (s : Nat) (w' : World) (v : Value) : Prop :=
  (tE q n A Q = 0 → w'.ownsRow s 32 2 v (tm (tP q n Q) n) (flat (tR A (tP q n Q) n) (tm (tP q n Q) n))) ∧ (tE q n A Q ≠ 0 → v = .slice none 0 0)
def TearC (a : Option Addr) (n cap : Nat) (A Q : Nat → Int) (q : Int) (w : World) : Prop :=
  Calls Try.prog 12 #[.int .i64 q, .slice a n cap] w fun e w' => (∃ v, e = .returned (.tuple #[v, .int .i64 (tE q n A Q)]) ∧ TearV q n A Q w.heap.size w' v) ∧ Below w.heap.size w w'

set_option maxRecDepth 100000 in
set_option maxHeartbeats 4000000 in
theorem tparts_bad (a : Option Addr) (n cap : Nat) (A Q : Nat → Int) (q : Int) (w : World) (hb : ∀ i, (0 ≤ A i ∧ A i ≤ 4294967295) ∧ F64 (Q i)) (hA : Holds w a n A Q) (hq : F64 q) (h : 64 < n ∨ q = 0 ∨ inB q (-10000000) 10000000 = false ∨ hmay A Q n = false) : TearC a n cap A Q q w := by
  by_cases hn : 64 < n
  · have he : tE q n A Q = 3 := if_pos hn
    unfold TearC
    rw [he]
    have HE := Lib.hid he
    have hni : (64 : Int) < n := by omega
    clear he hA hb hq h
    go_enter Try.func12, Try.ntmps12
    go_wp2
    go_ret2
    exact ⟨⟨_, rfl, fun h => by rw [HE.out] at h; omega, fun _ => rfl⟩, below_new _ _⟩
  · have h2 := h.resolve_left hn
    have he : tE q n A Q = 2 := by unfold tE; rw [if_neg hn, if_pos h2]
    unfold TearC
    rw [he]
    have HE := Lib.hid he
    have hni : ¬ (64 : Int) < n := by omega
    have cm := fun w2 hb2 => tmay_any a n cap A Q w2 hb (hA.kept (w' := w2) hb2) (by omega)
    have cw := fun w => within_any q 10000000 w hq (by omega) (by omega)
    clear he hA hb hq h
    by_cases hq0 : q = 0
    · subst hq0
      clear h2 cm cw
      go_enter Try.func12, Try.ntmps12
      go_wp2
      go_ret2
      exact ⟨⟨_, rfl, fun h => by rw [HE.out] at h; omega, fun _ => rfl⟩, below_new _ _⟩
    · have hqz : (q == 0) = false := by rw [beq_eq_false_iff_ne]; exact hq0
      have h3 := h2.resolve_left hq0
      clear h2
      obtain ⟨b, hb⟩ : ∃ b, b = inB q (-10000000) 10000000 := ⟨_, rfl⟩
      rw [← hb] at cw h3
      clear hb
      cases b
      · clear h3 cm
        go_enter Try.func12, Try.ntmps12
        go_wp2_with (first | (go_at_call 19; (with_reducible refine (cw _).mono ?_); rintro e w1 ⟨rfl, rfl⟩))
        go_ret2
        exact ⟨⟨_, rfl, fun h => by rw [HE.out] at h; omega, fun _ => rfl⟩, below_new _ _⟩
      · have h4 : hmay A Q n = false := h3.resolve_left (by simp)
        rw [h4] at cm
        clear h3 h4
        go_enter Try.func12, Try.ntmps12
        go_wp2_with (first | (go_at_call 19; (with_reducible refine (cw _).mono ?_); rintro e w1 ⟨rfl, rfl⟩) | (go_at_call 20; (with_reducible refine (cm _ (below_new _ _)).mono ?_); rintro e w1 ⟨rfl, hb1⟩))
        go_ret2
        exact ⟨⟨_, rfl, fun h => by rw [HE.out] at h; omega, fun _ => rfl⟩, below_then (below_new _ _) hb1⟩
end Go.Proofs.Yticdcdahehodkaa
/-! Slices of dues: what comes in. No condition. -/
namespace Go.Proofs.Yticdcdahehodkaa
set_option linter.unusedVariables false
set_option linter.unusedSimpArgs false
open Go.RowKit Go.Deep

/-- a due's three cells -/
def dA (a c v : Int) : Array Value := #[.int .u32 a, .int .i64 c, .int .i64 v]
theorem dA_size (a c v : Int) : (dA a c v).size = 3 := rfl
theorem dA_all (a c v : Int) : (dA a c v).all (·.oneCell') = true := by simp [dA, Value.oneCell']
theorem dA_0 (a c v : Int) : (dA a c v)[0]? = some (.int .u32 a) := rfl
theorem dA_1 (a c v : Int) : (dA a c v)[1]? = some (.int .i64 c) := rfl
theorem dA_2 (a c v : Int) : (dA a c v)[2]? = some (.int .i64 v) := rfl
def IsDue (A : Array Value) : Prop := ∃ a c v : Int, A = dA a c v ∧ (0 ≤ a ∧ a ≤ 4294967295) ∧ F64 c ∧ F64 v
/-- n dues, by account, cash and variation -/
def Dues (w : World) (ad : Option Addr) (n : Nat) (A C V : Nat → Int) : Prop := RowsC w 3 ad n (fun i => dA (A i) (C i) (V i))
theorem Dues.kept {w w' : World} {ad : Option Addr} {n : Nat} {A C V : Nat → Int} (h : Dues w ad n A C V) (hb : Below w.heap.size w w') : Dues w' ad n A C V := RowsC.kept h hb
section
variable {H : Type} {enc : TypeId × Value → H} {w : World} {spare : Nat → Bool} {held : Bool}
theorem due_trod {fuel : Nat} {cs : List Value} {x : DataW H × List MemPlace} (h : DataW.trod enc Try.prog w 0 spare held fuel 39 cs = some x) : IsDue cs.toArray := by
  obtain ⟨hl, n, hf⟩ := fields Try.underlying39 h
  have hc : Try.prog.cellsOf 39 = 3 := by kernel_rfl
  have c2 : Try.prog.cellsOf 2 = 1 := by kernel_rfl
  have c3 : Try.prog.cellsOf 30 = 1 := by kernel_rfl
  obtain ⟨_, y0⟩ := hf 0 _ rfl
  obtain ⟨_, y1⟩ := hf 1 _ rfl
  obtain ⟨_, y2⟩ := hf 2 _ rfl
  have l0 : IsN cs.toArray .u32 0 := leaf Try.underlying30 c3 y0
  have l1 : IsN cs.toArray .i64 1 := leaf Try.underlying2 c2 y1
  have l2 : IsN cs.toArray .i64 2 := leaf Try.underlying2 c2 y2
  rw [hc] at hl
  obtain ⟨e0, b0, b0'⟩ := l0
  obtain ⟨e1, b1, b1'⟩ := l1
  obtain ⟨e2, b2, b2'⟩ := l2
  refine ⟨N cs.toArray 0, N cs.toArray 1, N cs.toArray 2, ?_, ⟨b0, b0'⟩, ⟨b1, b1'⟩, ⟨b2, b2'⟩⟩
  apply Array.ext_getElem?
  intro i
  unfold dA
  by_cases h0 : i = 0
  · subst h0; rw [e0]; rfl
  · by_cases h1 : i = 1
    · subst h1; rw [e1]; rfl
    · by_cases h2 : i = 2
      · subst h2; rw [e2]; rfl
      · rw [Array.getElem?_eq_none_iff.2 (by simp [hl]; omega), Array.getElem?_eq_none_iff.2 (by simp; omega)]
set_option maxRecDepth 100000 in
theorem dues_of {r : Reach} {b : Nat} {v : Value} {d : DataW H} {p : List MemPlace} (hv : Value.okWide Try.prog w r b 34 v) (h : DataW.Trod enc Try.prog w 0 spare held 34 v d p) :
    ∃ (a : Option Addr) (n cap : Nat) (A C V : Nat → Int), v = .slice a n cap ∧ n ≤ cap ∧ cap ≤ 9223372036854775807 ∧ (∀ i, (0 ≤ A i ∧ A i ≤ 4294967295) ∧ F64 (C i) ∧ F64 (V i)) ∧ Dues w a n A C V ∧ (a = none → n = 0 ∧ cap = 0) := by
  obtain ⟨a, n, cap, L, rfl, h1, h2, h3, h4, h5⟩ := rows_of (Is := IsDue) (z := dA 0 0 0) ⟨0, 0, 0, rfl, by omega, by unfold F64; omega, by unfold F64; omega⟩ Try.underlying34 (c := 3) (by kernel_rfl) (by decide) (fun _ _ _ h => due_trod h) hv h
  have e : ∀ i, L i = dA (N (L i) 0) (N (L i) 1) (N (L i) 2) := fun i => by
    obtain ⟨x, y, z, e, _⟩ := h3 i
    rw [e]; rfl
  refine ⟨a, n, cap, fun i => N (L i) 0, fun i => N (L i) 1, fun i => N (L i) 2, rfl, h1, h2, fun i => ?_, RowsC.congr h4 (fun i _ => e i), h5⟩
  obtain ⟨x, y, z, e, b1, b2, b3⟩ := h3 i
  simp only [e]
  exact ⟨b1, b2, b3⟩
end
/-- the cells of a due that is read -/
theorem Dues.at {w : World} {ad : Option Addr} {n i : Nat} {A C V : Nat → Int} (h : Dues w ad n A C V) (hi : i < n) : ∃ g off B t fr, ad = some (⟨g, off, none⟩ : Addr) ∧ w.heap[g]? = some (.cells B t fr) ∧ off + i * 3 + 3 ≤ B.size ∧ B.extract (off + i * 3) (off + i * 3 + 3) = dA (A i) (C i) (V i) ∧
    B[off + i * 3]? = some (.int .u32 (A i)) ∧ B[off + i * 3 + 1]? = some (.int .i64 (C i)) ∧ B[off + i * 3 + 2]? = some (.int .i64 (V i)) := by
  obtain ⟨g, off, B, t, fr, h1, h2, h3, h4⟩ := h i hi
  refine ⟨g, off, B, t, fr, h1, h2, h3, h4, ?_, ?_, ?_⟩
  · have := congrArg (fun C : Array Value => C[0]?) h4
    simp only [Array.getElem?_extract] at this
    rw [if_pos (by omega)] at this
    exact this
  · have := congrArg (fun C : Array Value => C[1]?) h4
    simp only [Array.getElem?_extract] at this
    rw [if_pos (by omega)] at this
    exact this
  · have := congrArg (fun C : Array Value => C[2]?) h4
    simp only [Array.getElem?_extract] at this
    rw [if_pos (by omega)] at this
    exact this
theorem info_due : ∃ i z, Try.prog.info? 39 = some i ∧ i.zero = some z ∧ i.size = 3 ∧ i.bytes ≤ 1000 ∧ z.cells.size = 3 := by
  have h : (Try.prog.info? 39).map (fun i => (i.size, decide (i.bytes ≤ 1000), i.zero.map (·.cells.size))) = some (3, true, some 3) := by kernel_rfl
  cases hi : Try.prog.info? 39 with
  | none => simp [hi] at h
  | some i =>
    simp [hi] at h
    obtain ⟨h1, h2, z, h3, h4⟩ := h
    exact ⟨i, z, rfl, h3, h1, h2, h4⟩
/-- a settled one's four cells -/
def sA (a c : Int) (d : Bool) (u : Int) : Array Value := #[.int .u32 a, .int .i64 c, .bool d, .int .i64 u]
theorem sA_size (a c : Int) (d : Bool) (u : Int) : (sA a c d u).size = 4 := rfl
theorem sA_all (a c : Int) (d : Bool) (u : Int) : (sA a c d u).all (·.oneCell') = true := by simp [sA, Value.oneCell']
/-- the row of those settled, in a block of its own -/
structure OW (w : World) (g n : Nat) (a c : Nat → Int) (d : Nat → Bool) (u : Nat → Int) : Prop where
  row : ∃ G, w.heap[g]? = some (.cells G 43 (0, 0)) ∧ G.size = n * 4 ∧ ∀ i, i < n → G[i * 4]? = some (.int .u32 (a i)) ∧ G[i * 4 + 1]? = some (.int .i64 (c i)) ∧ G[i * 4 + 2]? = some (.bool (d i)) ∧ G[i * 4 + 3]? = some (.int .i64 (u i))
theorem OW.kept {w w' : World} {g n : Nat} {a c : Nat → Int} {d : Nat → Bool} {u : Nat → Int} (h : OW w g n a c d u) (hb : Below w.heap.size w w') : OW w' g n a c d u := by
  obtain ⟨G, h1, h2⟩ := h.row; exact ⟨G, Yticdcdahehodkaa.kept hb h1, h2⟩
theorem OW.grown {w w' : World} {g n : Nat} {a c : Nat → Int} {d : Nat → Bool} {u : Nat → Int} {row : Option Nat} (h : OW w g n a c d u) (hb : w.grownBy w' row) (hne : some g ≠ row) : OW w' g n a c d u := by
  obtain ⟨G, h1, h2⟩ := h.row; exact ⟨G, by rw [hb.block g ((Array.getElem?_eq_some_iff.1 h1).1) hne]; exact h1, h2⟩
theorem OW.drew {w : World} {g n : Nat} {a c : Nat → Int} {d : Nat → Bool} {u : Nat → Int} (h : OW w g n a c d u) : OW w.drew g n a c d u := ⟨h.row⟩
theorem OW.lt {w : World} {g n : Nat} {a c : Nat → Int} {d : Nat → Bool} {u : Nat → Int} (h : OW w g n a c d u) : g < w.heap.size := by
  obtain ⟨G, h1, _⟩ := h.row; exact (Array.getElem?_eq_some_iff.1 h1).1
theorem OW.cells {w : World} {g n : Nat} {a c : Nat → Int} {d : Nat → Bool} {u : Nat → Int} (h : OW w g n a c d u) {i : Nat} (hi : i < n) : w.cell? ⟨g, i * 4, none⟩ = some (.int .u32 (a i)) ∧ w.cell? ⟨g, i * 4 + 1, none⟩ = some (.int .i64 (c i)) ∧ w.cell? ⟨g, i * 4 + 2, none⟩ = some (.bool (d i)) ∧ w.cell? ⟨g, i * 4 + 3, none⟩ = some (.int .i64 (u i)) ∧ ∀ j, w.frozen? ⟨g, j, none⟩ = false := by
  obtain ⟨G, h1, h2, h3⟩ := h.row
  obtain ⟨f1, f2, _⟩ := cells_of h1
  obtain ⟨e0, e1, e2, e3⟩ := h3 i hi
  exact ⟨(f1 _).trans e0, (f1 _).trans e1, (f1 _).trans e2, (f1 _).trans e3, f2⟩
def put {α : Type} (f : Nat → α) (i : Nat) (v : α) : Nat → α := fun x => if x = i then v else f x
theorem put_at {α : Type} (f : Nat → α) (i : Nat) (v : α) : put f i v i = v := by simp [put]
theorem put_ne {α : Type} (f : Nat → α) {i x : Nat} (v : α) (h : x ≠ i) : put f i v x = f x := by simp [put, h]
theorem OW.setc {w : World} {g n i : Nat} {a c : Nat → Int} {d : Nat → Bool} {u : Nat → Int} (h : OW w g n a c d u) (hi : i < n) (x : Int) : OW (w.setCell ⟨g, i * 4 + 1, none⟩ (.int .i64 x)) g n a (put c i x) d u := by
  obtain ⟨G, h1, h2, h3⟩ := h.row
  refine ⟨_, heap_set h1, by simp [h2], fun k hk => ?_⟩
  obtain ⟨e0, e1, e2, e3⟩ := h3 k hk
  refine ⟨by rw [Array.getElem?_setIfInBounds_ne (by omega)]; exact e0, ?_, by rw [Array.getElem?_setIfInBounds_ne (by omega)]; exact e2, by rw [Array.getElem?_setIfInBounds_ne (by omega)]; exact e3⟩
  by_cases e : k = i
  · subst e; rw [Array.getElem?_setIfInBounds_self_of_lt (by omega), put_at]
  · rw [Array.getElem?_setIfInBounds_ne (by omega), put_ne _ _ e]; exact e1
theorem OW.setd {w : World} {g n i : Nat} {a c : Nat → Int} {d : Nat → Bool} {u : Nat → Int} (h : OW w g n a c d u) (hi : i < n) (x : Bool) : OW (w.setCell ⟨g, i * 4 + 2, none⟩ (.bool x)) g n a c (put d i x) u := by
  obtain ⟨G, h1, h2, h3⟩ := h.row
  refine ⟨_, heap_set h1, by simp [h2], fun k hk => ?_⟩
  obtain ⟨e0, e1, e2, e3⟩ := h3 k hk
  refine ⟨by rw [Array.getElem?_setIfInBounds_ne (by omega)]; exact e0, by rw [Array.getElem?_setIfInBounds_ne (by omega)]; exact e1, ?_, by rw [Array.getElem?_setIfInBounds_ne (by omega)]; exact e3⟩
  by_cases e : k = i
  · subst e; rw [Array.getElem?_setIfInBounds_self_of_lt (by omega), put_at]
  · rw [Array.getElem?_setIfInBounds_ne (by omega), put_ne _ _ e]; exact e2
theorem OW.setu {w : World} {g n i : Nat} {a c : Nat → Int} {d : Nat → Bool} {u : Nat → Int} (h : OW w g n a c d u) (hi : i < n) (x : Int) : OW (w.setCell ⟨g, i * 4 + 3, none⟩ (.int .i64 x)) g n a c d (put u i x) := by
  obtain ⟨G, h1, h2, h3⟩ := h.row
  refine ⟨_, heap_set h1, by simp [h2], fun k hk => ?_⟩
  obtain ⟨e0, e1, e2, e3⟩ := h3 k hk
  refine ⟨by rw [Array.getElem?_setIfInBounds_ne (by omega)]; exact e0, by rw [Array.getElem?_setIfInBounds_ne (by omega)]; exact e1, by rw [Array.getElem?_setIfInBounds_ne (by omega)]; exact e2, ?_⟩
  by_cases e : k = i
  · subst e; rw [Array.getElem?_setIfInBounds_self_of_lt (by omega), put_at]
  · rw [Array.getElem?_setIfInBounds_ne (by omega), put_ne _ _ e]; exact e3
end Go.Proofs.Yticdcdahehodkaa
/-! settle's may: what it answers. Condition: the numbers fit their kinds. -/
namespace Go.Proofs.Yticdcdahehodkaa
set_option linter.unusedVariables false
set_option linter.unusedSimpArgs false
open Go.RowKit

/-- dues that may be settled, but for the fund and the sum -/
def dmay (A C V : Nat → Int) : Nat → Bool
  | 0 => true
  | k + 1 => dmay A C V k && (decide ((if k = 0 then 0 else A (k - 1)) < A k) && (inB (C k) 0 1000000000000000 && inB (V k) (-100000000000000000) 100000000000000000))
theorem dmay_le {A C V : Nat → Int} : ∀ n, dmay A C V n = true → ∀ k, k ≤ n → dmay A C V k = true
  | 0, _, k, hk => by rw [Nat.le_zero.1 hk]; rfl
  | n + 1, h, k, hk => by
    by_cases e : k = n + 1
    · subst e; exact h
    · have h2 : (dmay A C V n && (decide ((if n = 0 then 0 else A (n - 1)) < A n) && (inB (C n) 0 1000000000000000 && inB (V n) (-100000000000000000) 100000000000000000))) = true := h
      rw [Bool.and_eq_true] at h2
      exact dmay_le n h2.1 k (by omega)
def dOk (A C V : Nat → Int) (k : Nat) : Prop := (if k = 0 then 0 else A (k - 1)) < A k ∧ (0 ≤ C k ∧ C k ≤ 1000000000000000) ∧ (-100000000000000000 ≤ V k ∧ V k ≤ 100000000000000000)
theorem dmay_at {A C V : Nat → Int} {n k : Nat} (h : dmay A C V n = true) (hk : k < n) : dOk A C V k := by
  have h2 : (dmay A C V k && (decide ((if k = 0 then 0 else A (k - 1)) < A k) && (inB (C k) 0 1000000000000000 && inB (V k) (-100000000000000000) 100000000000000000))) = true := dmay_le n h (k + 1) (by omega)
  rw [Bool.and_eq_true, Bool.and_eq_true, Bool.and_eq_true, decide_eq_true_iff] at h2
  exact ⟨h2.2.1, inB_iff.1 h2.2.2.1, inB_iff.1 h2.2.2.2⟩
theorem dmay_no {A C V : Nat → Int} {k : Nat} : ∀ n, k < n → ¬ dOk A C V k → dmay A C V n = false := fun n hk h => by
  rw [Bool.eq_false_iff]; intro ht; exact h (dmay_at ht hk)
theorem dmay_next {A C V : Nat → Int} {k : Nat} (h : dmay A C V k = true) (h2 : dOk A C V k) : dmay A C V (k + 1) = true := by
  show (dmay A C V k && (decide ((if k = 0 then 0 else A (k - 1)) < A k) && (inB (C k) 0 1000000000000000 && inB (V k) (-100000000000000000) 100000000000000000))) = true
  rw [h, decide_eq_true h2.1, inB_iff.2 h2.2.1, inB_iff.2 h2.2.2]; rfl

set_option maxHeartbeats 1000000 in
theorem funds_any (x : Int) (w : World) :
    Calls Try.prog 42 #[.int .i64 x] w fun e w' => e = .returned (.bool (inB x 0 1000000000000000)) ∧ w = w' := by
  by_cases h : 0 ≤ x
  · go_enter Try.func42, Try.ntmps42
    go_wp2
    go_ret
    exact ⟨ret_bool (by simp [inB]; omega), rfl⟩
  · go_enter Try.func42, Try.ntmps42
    go_wp2
    go_ret
    exact ⟨ret_bool (by simp [inB]; omega), rfl⟩

set_option maxRecDepth 100000 in
set_option maxHeartbeats 4000000 in
theorem smay_any (fund : Int) (a : Option Addr) (n cap : Nat) (A C V : Nat → Int) (w : World) (hb : ∀ i, (0 ≤ A i ∧ A i ≤ 4294967295) ∧ F64 (C i) ∧ F64 (V i)) (hA : Dues w a n A C V) (hn : n ≤ 64) :
    Calls Try.prog 25 #[.int .i64 fund, .slice a n cap] w fun e w' => e = .returned (.bool (dmay A C V n && inB fund 0 1000000000000000)) ∧ Below w.heap.size w w' := by
  have HA := Lib.hid hA
  have HB := Lib.hid hb
  clear hA hb
  go_enter Try.func25, Try.ntmps25
  go_wp2
  go_loopg [6, 11] n (fun gh v6 vi wr => ∃ k : Nat, k ≤ n ∧ gh = n - k ∧ vi = .int .i64 k ∧ v6 = .int .u32 (if k = 0 then 0 else A (k - 1)) ∧ dmay A C V k = true ∧ Below w.heap.size w wr)
  case atStart => exact ⟨0, by omega, by omega, rfl, rfl, rfl, Below.refl _ _⟩
  case round =>
    obtain ⟨k, hk, rfl, rfl, rfl, hm, hbw⟩ := hrel
    have HM := Lib.hid hm
    have HW := Lib.hid hbw
    clear hm hbw
    obtain ⟨l, hl⟩ : ∃ l, l = (if k = 0 then 0 else A (k - 1)) := ⟨_, rfl⟩
    rw [← hl]
    by_cases hlt : k < n
    · obtain ⟨g, off, B, t, fr, rfl, hg, hs, he, c0, c1, c2⟩ := (HA.out.kept HW.out).at hlt
      have hki : (k : Int) < n := by omega
      have HBK := Lib.hid (HB.out k)
      have HNO := Lib.hid (fun (h : ¬ (l < A k ∧ (0 ≤ C k ∧ C k ≤ 1000000000000000) ∧ (-100000000000000000 ≤ V k ∧ V k ≤ 100000000000000000))) => dmay_no (A := A) (C := C) (V := V) n hlt (by unfold dOk; rw [← hl]; exact h))
      have HYES := Lib.hid (show l < A k ∧ (0 ≤ C k ∧ C k ≤ 1000000000000000) ∧ (-100000000000000000 ≤ V k ∧ V k ≤ 100000000000000000) → dmay A C V (k + 1) = true from fun h => dmay_next HM.out (by unfold dOk; rw [← hl]; exact h))
      have HNX := Lib.hid (show (if k + 1 = 0 then 0 else A (k + 1 - 1)) = A k from by rw [if_neg (by omega)]; rfl)
      have cw := fun w => within_any (V k) 100000000000000000 w HBK.out.2.2 (by omega) (by omega)
      have cf := fun w => funds_any (C k) w
      generalize A k = x at *
      generalize C k = c at *
      generalize V k = v at *
      have e0 := dA_0 x c v
      have e1 := dA_1 x c v
      have e2 := dA_2 x c v
      clear hl c0 c1 c2
      by_cases h1 : x ≤ l
      · have hf := HNO.out (by omega)
        go_wp2_with (first | ((with_reducible refine at_load 39 ?_); refine wpList_load_part rfl 39 _ rfl (g) (off + k * 3) rfl _ (B) _ _ 3 (hg) Try.underlying39 rfl (by kernel_rfl) (hs) (dA x c v) (he) ?_) | ((with_reducible refine at_alloc 39 ?_); refine wpList_alloc_named rfl 39 rfl (dA 0 0 0) (by kernel_rfl) ?_) | ((with_reducible refine at_store 39 ?_); refine wpList_store_new rfl 39 _ _ rfl (dA x c v) _ _ _ rfl (by simp) rfl (by rw [dA_size _ _ _]; kernel_rfl) (by rw [dA_size _ _ _]; rfl) (dA_all _ _ _) ?_))
        go_ret
        exact ⟨by rw [hf]; rfl, below_alloc HW.out _⟩
      · obtain ⟨b, hb⟩ : ∃ b, b = inB c 0 1000000000000000 := ⟨_, rfl⟩
        rw [← hb] at cf
        cases b
        · have hf := HNO.out (fun h => by have := inB_iff.2 h.2.1; rw [← hb] at this; cases this)
          clear hb cw
          go_wp2_with (first | ((with_reducible refine at_load 39 ?_); refine wpList_load_part rfl 39 _ rfl (g) (off + k * 3) rfl _ (B) _ _ 3 (hg) Try.underlying39 rfl (by kernel_rfl) (hs) (dA x c v) (he) ?_) | ((with_reducible refine at_alloc 39 ?_); refine wpList_alloc_named rfl 39 rfl (dA 0 0 0) (by kernel_rfl) ?_) | ((with_reducible refine at_store 39 ?_); refine wpList_store_new rfl 39 _ _ rfl (dA x c v) _ _ _ rfl (by simp) rfl (by rw [dA_size _ _ _]; kernel_rfl) (by rw [dA_size _ _ _]; rfl) (dA_all _ _ _) ?_) | (go_at_call 42; (with_reducible refine (cf _).mono ?_); rintro e w1 ⟨rfl, rfl⟩))
          go_ret
          exact ⟨by rw [hf]; rfl, below_alloc HW.out _⟩
        · obtain ⟨b2, hb2⟩ : ∃ b, b = inB v (-100000000000000000) 100000000000000000 := ⟨_, rfl⟩
          rw [← hb2] at cw
          cases b2
          · have hf := HNO.out (fun h => by have := inB_iff.2 h.2.2; rw [← hb2] at this; cases this)
            clear hb hb2
            go_wp2_with (first | ((with_reducible refine at_load 39 ?_); refine wpList_load_part rfl 39 _ rfl (g) (off + k * 3) rfl _ (B) _ _ 3 (hg) Try.underlying39 rfl (by kernel_rfl) (hs) (dA x c v) (he) ?_) | ((with_reducible refine at_alloc 39 ?_); refine wpList_alloc_named rfl 39 rfl (dA 0 0 0) (by kernel_rfl) ?_) | ((with_reducible refine at_store 39 ?_); refine wpList_store_new rfl 39 _ _ rfl (dA x c v) _ _ _ rfl (by simp) rfl (by rw [dA_size _ _ _]; kernel_rfl) (by rw [dA_size _ _ _]; rfl) (dA_all _ _ _) ?_) | (go_at_call 42; (with_reducible refine (cf _).mono ?_); rintro e w1 ⟨rfl, rfl⟩) | (go_at_call 19; (with_reducible refine (cw _).mono ?_); rintro e w1 ⟨rfl, rfl⟩))
            go_ret
            exact ⟨by rw [hf]; rfl, below_alloc HW.out _⟩
          · have hy := Lib.hid (HYES.out ⟨by omega, inB_iff.1 hb.symm, inB_iff.1 hb2.symm⟩)
            clear hb hb2
            go_wp2_with (first | ((with_reducible refine at_load 39 ?_); refine wpList_load_part rfl 39 _ rfl (g) (off + k * 3) rfl _ (B) _ _ 3 (hg) Try.underlying39 rfl (by kernel_rfl) (hs) (dA x c v) (he) ?_) | ((with_reducible refine at_alloc 39 ?_); refine wpList_alloc_named rfl 39 rfl (dA 0 0 0) (by kernel_rfl) ?_) | ((with_reducible refine at_store 39 ?_); refine wpList_store_new rfl 39 _ _ rfl (dA x c v) _ _ _ rfl (by simp) rfl (by rw [dA_size _ _ _]; kernel_rfl) (by rw [dA_size _ _ _]; rfl) (dA_all _ _ _) ?_) | (go_at_call 42; (with_reducible refine (cf _).mono ?_); rintro e w1 ⟨rfl, rfl⟩) | (go_at_call 19; (with_reducible refine (cw _).mono ?_); rintro e w1 ⟨rfl, rfl⟩))
            go_roundg (n - (k + 1))
            case measure => omega
            case rel => exact ⟨k + 1, by omega, rfl, by go_num, by rw [HNX.out], hy.out, below_alloc HW.out _⟩
    · obtain rfl : k = n := by omega
      have cf := fun w => funds_any fund w
      clear hl
      go_wp2_with (first | (go_at_call 42; (with_reducible refine (cf _).mono ?_); rintro e w1 ⟨rfl, rfl⟩))
      go_ret
      exact ⟨by rw [HM.out]; rfl, HW.out⟩
end Go.Proofs.Yticdcdahehodkaa
