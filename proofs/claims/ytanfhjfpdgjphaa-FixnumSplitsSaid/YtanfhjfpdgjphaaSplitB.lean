/- fixnum's Split where there are parts. Condition: the numbers fit their kinds. -/
import Derived.Test.YtanfhjfpdgjphaaSplit
namespace Go.Proofs.Ytanfhjfpdgjphaa
set_option linter.unusedVariables false
set_option linter.unusedSimpArgs false
open Go.RowKit

theorem wrapN64 {n : Nat} {z : Int} (hz : z = (n : Int)) (h : n ≤ 9223372036854775807) : IntKind.i64.wrap z = (n : Int) := by rw [IntKind.wrap_i64]; omega
/-- the first p in order -/
def tkd (d : Nat → Nat) : Nat → Nat → Bool
  | 0 => fun _ => false
  | p + 1 => fun j => decide (j = d p) || tkd d p j
theorem tkd_iff (d : Nat → Nat) : ∀ (p j : Nat), tkd d p j = true ↔ ∃ i, i < p ∧ d i = j
  | 0, j => ⟨(fun h => by cases h), (fun ⟨i, h, _⟩ => by omega)⟩
  | p + 1, j => by
    show (decide (j = d p) || tkd d p j) = true ↔ _
    rw [Bool.or_eq_true, decide_eq_true_iff, tkd_iff d p j]
    constructor
    · rintro (rfl | ⟨i, h1, h2⟩)
      · exact ⟨p, by omega, rfl⟩
      · exact ⟨i, by omega, h2⟩
    · rintro ⟨i, h1, h2⟩
      by_cases e : i = p
      · subst e; exact .inl h2.symm
      · exact .inr ⟨i, by omega, h2⟩
theorem perm_onto {n : Nat} {d : Nat → Nat} (h : PermOn 0 n id d) : (∀ i, i < n → d i < n) ∧ (∀ i j, d i = d j → i = j) ∧ ∀ y, y < n → ∃ i, i < n ∧ d i = y := by
  obtain ⟨s, t, h1, h2, h3, h4⟩ := h
  have e : ∀ k, d k = s k := fun k => h4 k
  refine ⟨fun i hi => ?_, fun i j hij => ?_, fun y hy => ⟨t y, ?_, by rw [e, h1]⟩⟩
  · rw [e]
    apply Classical.byContradiction; intro hc
    have e1 := h3 (s i) (by omega)
    have e2 := congrArg t e1
    rw [h2, h2] at e2
    omega
  · rw [e, e] at hij
    have e2 := congrArg t hij
    rwa [h2, h2] at e2
  · apply Classical.byContradiction; intro hc
    have e1 := h3 (t y) (by omega)
    rw [h1] at e1
    omega
theorem tkd_all {K : Nat → Int} {n : Nat} {d : Nat → Nat} (hp : PermOn 0 n id d) (hs : Srt K 0 n d) : ∀ p, p ≤ n → Clo K n (tkd d p) ∧ cnt (tkd d p) n = p
  | 0, _ => ⟨(fun i j _ _ h _ => by cases h), cnt_none n⟩
  | p + 1, h => by
    obtain ⟨h1, h2⟩ := tkd_all hp hs p (by omega)
    obtain ⟨o1, o2, o3⟩ := perm_onto hp
    have hf : tkd d p (d p) = false := by
      rw [Bool.eq_false_iff]; intro ht
      obtain ⟨i, hi, e⟩ := (tkd_iff d p (d p)).1 ht
      have := o2 _ _ e; omega
    obtain ⟨h3, h4⟩ := h1.next (o1 p (by omega)) hf (fun y hy hyt => by
      obtain ⟨i, hi, rfl⟩ := o3 y hy
      have hpi : p ≤ i := by
        apply Classical.byContradiction; intro hc
        rw [(tkd_iff d p (d i)).2 ⟨i, by omega, rfl⟩] at hyt; cases hyt
      by_cases e : i = p
      · subst e; exact .inl rfl
      · exact .inr (hs p i (by omega) (by omega) hi))
    exact ⟨h3, h4.trans (by rw [h2])⟩

/-- the four blocks that a split makes -/
structure SplW (w wr : World) (gp gu gv go n k : Nat) (W : Nat → Nat) (T : Nat) : Prop where
  below : Below w.heap.size w wr
  p : ∃ P, wr.heap[gp]? = some (.cells P 2 (0, 0)) ∧ P.size = n ∧ ∀ j, j < k → P[j]? = some (.int .i64 (flo W n T j : Nat))
  u : ∃ U, wr.heap[gu]? = some (.cells U 38 (0, 0)) ∧ U.size = n ∧ ∀ j, j < k → U[j]? = some (.int .u64 (res W n T j : Nat))
  v : wr.heap[gv]? = some (.cells #[.slice (some ⟨gu, 0, none⟩) n n] 57 (0, 0))
  o : ∃ O, wr.heap[go]? = some (.cells O 3 (0, 0)) ∧ O.size = n ∧ ∀ j, j < k → O[j]? = some (.int .i64 (j : Nat))
theorem set_at {A : Array Value} {n k : Nat} {v : Value} {f : Nat → Value} (hs : A.size = n) (hk : k < n) (h : ∀ j, j < k → A[j]? = some (f j)) (hv : v = f k) : (A.setIfInBounds k v).size = n ∧ ∀ j, j < k + 1 → (A.setIfInBounds k v)[j]? = some (f j) := by
  refine ⟨by simp [hs], fun j hj => ?_⟩
  by_cases e : j = k
  · subst e; rw [Array.getElem?_setIfInBounds_self_of_lt (by omega), hv]
  · rw [Array.getElem?_setIfInBounds_ne (by omega)]; exact h j (by omega)
theorem below_setS {w wr : World} {b g i : Nat} {v : Value} (h : Below b w wr) (hg : b ≤ g) : Below b w (wr.setCell ⟨g, i, none⟩ v) :=
  ⟨h.os, h.tape, h.output, by simpa [World.setCell] using h.size, fun k hk => by rw [heap_setCell_other wr ⟨g, i, none⟩ k v (show k ≠ g by omega)]; exact h.block k hk⟩
theorem SplW.next {w wr : World} {gp gu gv go n k T : Nat} {W : Nat → Nat} {a b c : Value} (h : SplW w wr gp gu gv go n k W T) (hk : k < n) (h1 : w.heap.size ≤ gp) (h2 : gp < gu) (h3 : gu < gv) (h4 : gv < go)
    (ha : a = .int .i64 (flo W n T k : Nat)) (hb : b = .int .u64 (res W n T k : Nat)) (hc : c = .int .i64 (k : Nat)) :
    SplW w (((wr.setCell ⟨gp, k, none⟩ a).setCell ⟨gu, k, none⟩ b).setCell ⟨go, k, none⟩ c) gp gu gv go n (k + 1) W T := by
  obtain ⟨P, p1, p2, p3⟩ := h.p
  obtain ⟨U, u1, u2, u3⟩ := h.u
  obtain ⟨O, o1, o2, o3⟩ := h.o
  refine ⟨below_setS (below_setS (below_setS h.below (by omega)) (by omega)) (by omega), ⟨_, heap_set_other (heap_set_other (heap_set p1) (by omega)) (by omega), set_at p2 hk p3 ha⟩, ⟨_, heap_set_other (heap_set (heap_set_other u1 (by omega))) (by omega), set_at u2 hk u3 hb⟩,
    heap_set_other (heap_set_other (heap_set_other h.v (by omega)) (by omega)) (by omega), ⟨_, heap_set (heap_set_other (heap_set_other o1 (by omega)) (by omega)), set_at o2 hk o3 hc⟩⟩
theorem SplW.drew {w wr : World} {gp gu gv go n k T : Nat} {W : Nat → Nat} (h : SplW w wr gp gu gv go n k W T) : SplW w wr.drew gp gu gv go n k W T := ⟨Below.drew h.below, h.p, h.u, h.v, h.o⟩
theorem SplW.after {w wr w' : World} {gp gu gv go n k T : Nat} {W : Nat → Nat} (h : SplW w wr gp gu gv go n k W T) (hb : Below wr.heap.size wr w') : SplW w w' gp gu gv go n k W T := by
  obtain ⟨P, p1, p2, p3⟩ := h.p
  obtain ⟨U, u1, u2, u3⟩ := h.u
  obtain ⟨O, o1, o2, o3⟩ := h.o
  exact ⟨below_then h.below hb, ⟨P, Ytanfhjfpdgjphaa.kept hb p1, p2, p3⟩, ⟨U, Ytanfhjfpdgjphaa.kept hb u1, u2, u3⟩, Ytanfhjfpdgjphaa.kept hb h.v, ⟨O, Ytanfhjfpdgjphaa.kept hb o1, o2, o3⟩⟩
/-- the cells that a round writes -/
theorem SplW.cells {w wr : World} {gp gu gv go n k T : Nat} {W : Nat → Nat} (h : SplW w wr gp gu gv go n k W T) (hk : k < n) (h2 : gp < gu) (h3 : gu < gv) (h4 : gv < go) (a b : Value) :
    (∃ x, wr.cell? ⟨gp, k, none⟩ = some x) ∧ (∃ x, (wr.setCell ⟨gp, k, none⟩ a).cell? ⟨gu, k, none⟩ = some x) ∧ (∃ x, ((wr.setCell ⟨gp, k, none⟩ a).setCell ⟨gu, k, none⟩ b).cell? ⟨go, k, none⟩ = some x) ∧
    wr.frozen? ⟨gp, k, none⟩ = false ∧ wr.frozen? ⟨gu, k, none⟩ = false ∧ wr.frozen? ⟨go, k, none⟩ = false ∧ wr.cell? ⟨gv, 0, none⟩ = some (.slice (some ⟨gu, 0, none⟩) n n) := by
  obtain ⟨P, p1, p2, p3⟩ := h.p
  obtain ⟨U, u1, u2, u3⟩ := h.u
  obtain ⟨O, o1, o2, o3⟩ := h.o
  have u4 := heap_set_other (g := gp) (i := k) (v := a) u1 (by omega)
  have o4 := heap_set_other (g := gu) (i := k) (v := b) (heap_set_other (g := gp) (i := k) (v := a) o1 (by omega)) (by omega)
  refine ⟨⟨_, ((cells_of p1).1 k).trans (Array.getElem?_eq_getElem (by omega))⟩, ⟨_, ((cells_of u4).1 k).trans (Array.getElem?_eq_getElem (by omega))⟩, ⟨_, ((cells_of o4).1 k).trans (Array.getElem?_eq_getElem (by omega))⟩,
    (cells_of p1).2.1 k, (cells_of u1).2.1 k, (cells_of o1).2.1 k, (cells_of h.v).1 0⟩

structure SplX (w wr : World) (gp go n p : Nat) (d W : Nat → Nat) (T : Nat) : Prop where
  below : Below w.heap.size w wr
  p : ∃ P, wr.heap[gp]? = some (.cells P 2 (0, 0)) ∧ P.size = n ∧ ∀ j, j < n → P[j]? = some (.int .i64 (flo W n T j + b01 (tkd d p j) : Nat))
  o : ∃ O, wr.heap[go]? = some (.cells O 3 (0, 0)) ∧ n ≤ O.size ∧ ∀ j, j < n → O[j]? = some (.int .i64 (d j))
theorem SplX.next {w wr : World} {gp go n p T : Nat} {d W : Nat → Nat} {v : Value} (h : SplX w wr gp go n p d W T) (h1 : w.heap.size ≤ gp) (h2 : gp < go) (hx : d p < n) (hf : tkd d p (d p) = false) (hv : v = .int .i64 (flo W n T (d p) + 1 : Nat)) :
    SplX w (wr.setCell ⟨gp, d p, none⟩ v) gp go n (p + 1) d W T := by
  obtain ⟨P, p1, p2, p3⟩ := h.p
  obtain ⟨O, o1, o2, o3⟩ := h.o
  refine ⟨below_setS h.below h1, ⟨_, heap_set p1, by simp [p2], fun j hj => ?_⟩, ⟨O, heap_set_other o1 (by omega), o2, o3⟩⟩
  by_cases e : j = d p
  · subst e
    rw [Array.getElem?_setIfInBounds_self_of_lt (by omega), hv, show tkd d (p + 1) (d p) = true from by show (decide (d p = d p) || _) = true; simp]
    rfl
  · rw [Array.getElem?_setIfInBounds_ne (by omega), show tkd d (p + 1) j = tkd d p j from by show (decide (j = d p) || _) = _; simp [e]]
    exact p3 j hj

set_option maxRecDepth 100000 in
set_option maxHeartbeats 4000000 in
theorem split_parts (a : Option Addr) (n cap : Nat) (Z : Nat → Int) (T S : Nat) (w : World) (hn : n ≤ 1000) (hF : ∀ i, F64 (Z i)) (hA : Ints w a n Z) (hT : 0 < T) (hTb : T ≤ 9223372036854775807) (hP : ∀ i, i < n → 0 ≤ Z i) (hS0 : 0 < S) (hSb : S ≤ 9223372036854775807) (hS : sumN (wts Z) n = S) :
    Calls Try.prog 29 #[.int .i64 T, .slice a n cap] w fun e w' => (∃ g P, e = .returned (.tuple #[.slice (some ⟨g, 0, none⟩) n n, .int .i64 0]) ∧ w.heap.size ≤ g ∧ w'.heap[g]? = some (.cells P 2 (0, 0)) ∧ P.size = n ∧ ∀ i, i < n → P[i]? = some (.int .i64 (prt (wts Z) n T i : Nat))) ∧ Below w.heap.size w w' := by
  have c := has_any a n cap Z w hA (by omega)
  have cm := fsum_any a n cap Z w hF hA (by omega)
  have HX := Lib.hid (show ¬ ∃ i, i < n ∧ Z i < 0 from fun ⟨i, h1, h2⟩ => by have := hP i h1; omega)
  rw [wts_sum n hP, hS] at cm
  have hb := fit_yes (v := (S : Int)) (by omega)
  rw [hb.2.1, hb.2.2] at cm
  obtain ⟨RP, rp1, rp2, hmp⟩ := mk_row 30 2 .i64 n Try.underlying30 (by kernel_rfl) (by omega)
  obtain ⟨RU, ru1, ru2, hmu⟩ := mk_row 57 38 .u64 n Try.underlying57 (by kernel_rfl) (by omega)
  obtain ⟨RO, ro1, ro2, hmo⟩ := mk_row 58 3 .i64 n Try.underlying58 (by kernel_rfl) (by omega)
  have HRP := Lib.hid rp1
  have HRU := Lib.hid ru1
  have HRO := Lib.hid ro1
  have HA := Lib.hid hA
  have HF := Lib.hid hF
  have HPP := Lib.hid hP
  have HS := Lib.hid hS
  have hTi : (T : Int) ≤ 9223372036854775807 := by omega
  have hT0 : ¬ (T : Int) < 0 := by omega
  have hTz : ((T : Int) == 0) = false := by rw [beq_eq_false_iff_ne]; omega
  have hSz : ((S : Int) == 0) = false := by rw [beq_eq_false_iff_ne]; omega
  have hni : ¬ (1000 : Int) < n := by omega
  have wT : IntKind.u64.wrap (T : Int) = (T : Int) := by rw [IntKind.wrap_u64]; omega
  have wS : IntKind.u64.wrap (S : Int) = (S : Int) := by rw [IntKind.wrap_u64]; omega
  have HN := Lib.hid (And.intro hTb hSb)
  clear hb rp1 rp2 ru1 ru2 ro1 ro2 hA hF hP hS hTb hSb
  go_enter Try.func29, Try.ntmps29
  go_wp2_with (first | (go_at_call 42; (with_reducible refine (c).mono ?_); rintro e w1 ⟨⟨b, rfl, hb⟩, rfl⟩; obtain rfl : b = false := (by cases b; rfl; exact absurd (hb.1 rfl) HX.out); clear hb) | (go_at_call 26; (with_reducible refine (cm).mono ?_); rintro e w1 ⟨rfl, rfl⟩))
  obtain ⟨gp, hgp⟩ : ∃ g, g = w.heap.size := ⟨_, rfl⟩
  obtain ⟨gu, hgu⟩ : ∃ g, g = gp + 1 := ⟨_, rfl⟩
  obtain ⟨gv, hgv⟩ : ∃ g, g = gu + 1 := ⟨_, rfl⟩
  obtain ⟨go, hgo⟩ : ∃ g, g = gv + 1 := ⟨_, rfl⟩
  rw [← hgp, ← hgu, ← hgv, ← hgo]
  obtain ⟨w3, hw3⟩ : ∃ w3, w3 = (((w.alloc (.cells RP 2)).alloc (.cells RU 38)).alloc (.cells #[.slice (some ⟨gu, 0, none⟩) n n] 57)).alloc (.cells RO 3) := ⟨_, rfl⟩
  rw [← hw3]
  have W0 := Lib.hid (show SplW w w3 gp gu gv go n 0 (wts Z) T from by
    subst hw3; subst hgo; subst hgv; subst hgu; subst hgp
    refine ⟨below_alloc (below_alloc (below_alloc (below_new _ _) _) _) _, ⟨RP, (by repeat (first | exact heap_new (by simp; done) | refine heap_up ?_)), HRP.out, fun j hj => by omega⟩, ⟨RU, (by repeat (first | exact heap_new (by simp; done) | refine heap_up ?_)), HRU.out, fun j hj => by omega⟩, (by repeat (first | exact heap_new (by simp; done) | refine heap_up ?_)), ⟨RO, (by repeat (first | exact heap_new (by simp; done) | refine heap_up ?_)), HRO.out, fun j hj => by omega⟩⟩)
  have HG := Lib.hid (show w.heap.size ≤ gp ∧ gp < gu ∧ gu < gv ∧ gv < go from by omega)
  clear hw3 hgo hgv hgu hgp HRP HRU HRO hmp hmu hmo c
  go_loopg [10, 55] n (fun gh vl vi wr => ∃ k : Nat, k ≤ n ∧ gh = n - k ∧ vl = .int .u64 ((T - sumN (flo (wts Z) n T) k : Nat) : Int) ∧ vi = .int .i64 k ∧ SplW w wr gp gu gv go n k (wts Z) T)
  case atStart => exact ⟨0, by omega, by omega, by simp [sumN], rfl, W0.out⟩
  case round =>
    clear W0
    obtain ⟨k, hk, rfl, rfl, rfl, hW⟩ := hrel
    have HW := Lib.hid hW
    clear hW
    by_cases hlt : k < n
    · obtain ⟨g, off, A, t, fr, rfl, hgA, hz⟩ := (HA.out.kept (HW.out.below)) k hlt
      have hcA := cellF hgA
      obtain ⟨x, hx⟩ : ∃ x, x = wts Z k := ⟨_, rfl⟩
      have hxz : Z k = (x : Int) := by have := HPP.out k hlt; rw [hx]; unfold wts; omega
      have hx64 := HF.out k
      rw [hxz] at hz hx64
      unfold F64 at hx64
      have hTb := HN.out.1
      have hSb := HN.out.2
      have hxS : x ≤ S := by rw [hx, ← HS.out]; exact sumN_one (wts Z) hlt
      have wx : IntKind.u64.wrap (x : Int) = (x : Int) := by rw [IntKind.wrap_u64]; omega
      obtain ⟨q, hq⟩ : ∃ q, q = flo (wts Z) n T k := ⟨_, rfl⟩
      obtain ⟨r, hr⟩ : ∃ r, r = res (wts Z) n T k := ⟨_, rfl⟩
      have hqT : q ≤ T := by rw [hq]; exact flo_le (by rw [HS.out]; exact hS0) hlt
      have hq' : q = T * x / S := by rw [hq, hx, ← HS.out]; rfl
      have hr' : r = T * x % S := by rw [hr, hx, ← HS.out]; rfl
      obtain ⟨l, hl⟩ : ∃ l, l = T - sumN (flo (wts Z) n T) k := ⟨_, rfl⟩
      obtain ⟨l2, hl2⟩ : ∃ l, l = T - sumN (flo (wts Z) n T) (k + 1) := ⟨_, rfl⟩
      have hsum : sumN (flo (wts Z) n T) (k + 1) ≤ T := flo_part (by rw [HS.out]; exact hS0) (by omega)
      have hll : l = l2 + q := by
        have e : sumN (flo (wts Z) n T) (k + 1) = sumN (flo (wts Z) n T) k + flo (wts Z) n T k := rfl
        rw [← hq] at e
        omega
      have hlT : l ≤ T := by omega
      have wl : IntKind.u64.wrap ((l : Int) - (q : Int)) = (l2 : Int) := by rw [IntKind.wrap_u64]; omega
      have wq : IntKind.i64.wrap (q : Int) = (q : Int) := by rw [IntKind.wrap_i64]; omega
      have sm := fun w => Try.bits_Mul64 T x (by omega) (by omega) w
      obtain ⟨hi, hhi⟩ : ∃ h, h = T * x / 18446744073709551616 := ⟨_, rfl⟩
      obtain ⟨lo, hlo⟩ : ∃ h, h = T * x % 18446744073709551616 := ⟨_, rfl⟩
      have hPe : hi * 18446744073709551616 + lo = T * x := by omega
      have hhS : hi < S := by
        have h1 : T * x ≤ T * S := Nat.mul_le_mul_left _ hxS
        have h2 : T * S < 18446744073709551616 * S := Nat.mul_lt_mul_of_pos_right (by omega) hS0
        rw [hhi, Nat.div_lt_iff_lt_mul (by omega), Nat.mul_comm S]
        omega
      have sd := fun w => div64_any hi lo S w hhS (by omega) (by omega)
      rw [hPe, ← hq', ← hr'] at sd
      rw [← hhi, ← hlo] at sm
      rw [← hl]
      have HQ := Lib.hid (And.intro hq (And.intro hr hl2))
      have hG := HG.out
      have hki : (k : Int) < n := by omega
      clear hl hl2 hsum hll hq hr hq' hr' hhi hlo hPe hhS hx hxz hx64 hTb hSb hlT hqT hxS
      go_wp2_with (first | (go_at_call 32; (with_reducible refine (sm _).mono ?_); rintro e w1 ⟨rfl, hw1⟩; obtain rfl := hw1.symm))
      refine (sd _).mono ?_
      rintro e w5 ⟨rfl, hb5⟩
      have W5 := Lib.hid (HW.out.after hb5)
      clear hcA HW hb5 hgA sd sm
      obtain ⟨⟨y1, c1⟩, ⟨y2, c2⟩, ⟨y3, c3⟩, f1, f2, f3, cv⟩ := W5.out.cells hlt hG.2.1 hG.2.2.1 hG.2.2.2 (.int .i64 (q : Int)) (.int .u64 (r : Int))
      go_wp2
      go_region
      obtain ⟨w6, hw6⟩ : ∃ w6, w6 = (((w5.setCell ⟨gp, k, none⟩ (.int .i64 (q : Int))).setCell ⟨gu, k, none⟩ (.int .u64 (r : Int))).setCell ⟨go, k, none⟩ (.int .i64 (k : Int))).drew := ⟨_, rfl⟩
      have W6 := Lib.hid (show SplW w w6 gp gu gv go n (k + 1) (wts Z) T from by
        rw [hw6]; exact (W5.out.next hlt hG.1 hG.2.1 hG.2.2.1 hG.2.2.2 (by rw [HQ.out.1]) (by rw [HQ.out.2.1]) rfl).drew)
      rw [← hw6]
      clear hw6 c1 c2 c3 cv f1 f2 f3 W5
      go_wp2
      go_roundg (n - (k + 1))
      case measure => omega
      case rel => exact ⟨k + 1, by omega, rfl, by rw [← HQ.out.2.2], by go_num, W6.out⟩
    · obtain rfl : k = n := by omega
      have hU := HW.out.u
      have hO := HW.out.o
      have hgv := HW.out.v
      have hG := HG.out
      obtain ⟨U, u1, u2, u3⟩ := hU
      obtain ⟨O, o1, o2, o3⟩ := hO
      have hcmp : CmpAt wr go k (rcf (res (wts Z) k T)) (.pointer (some ⟨gv, 0, none⟩)) := fun W hgr x y hx hy =>
        cmp_any gv gu k x y (res (wts Z) k T) U _ _ _ _ _ W (by rw [hgr.block gv ((Array.getElem?_eq_some_iff.1 hgv).1) (by intro h; injection h with h; omega)]; exact hgv) rfl (by rw [hgr.block gu ((Array.getElem?_eq_some_iff.1 u1).1) (by intro h; injection h with h; omega)]; exact u1) u3 hx hy
      have hrow : RowI wr wr go k id := ⟨⟨rfl, rfl, rfl, Nat.le_refl _, fun _ _ _ => rfl⟩, ⟨O, o1, by omega, o3⟩, fun _ h => h, by omega⟩
      have cs := sorted_any go k k (rkey (wts Z) k T) (rcf (res (wts Z) k T)) (.pointer (some ⟨gv, 0, none⟩)) wr wr (fun x y => rcf_key _ x y) hcmp hrow
      have hS0' : 0 < sumN (wts Z) k := by rw [HS.out]; exact hS0
      obtain ⟨L, hL⟩ : ∃ L, L = lef (wts Z) k T := ⟨_, rfl⟩
      have hLn : L ≤ k := by rw [hL]; exact lef_le hS0'
      rw [show T - sumN (flo (wts Z) k T) k = L from hL.symm]
      have HL := Lib.hid hL
      have hLi : (L : Int) ≤ (k : Int) := by omega
      clear hcmp hrow u1 u2 u3 o1 o2 o3 hgv hL
      go_wp2_with (first | (go_at_call 44; (with_reducible refine (cs).mono ?_); rintro e w7 ⟨rfl, d, hR7, hp7, hs7⟩; replace hR7 := Lib.hid hR7; replace hp7 := Lib.hid hp7; replace hs7 := Lib.hid hs7))
      have X0 := Lib.hid (show SplX w w7 gp go k 0 d (wts Z) T from by
        obtain ⟨P, p1, p2, p3⟩ := HW.out.p
        obtain ⟨O, o1, o2, o3⟩ := hR7.out.row
        refine ⟨HW.out.below.grown hR7.out.fr HW.out.below.size (fun k hk => by cases hk; omega), ⟨P, by rw [hR7.out.fr.block gp ((Array.getElem?_eq_some_iff.1 p1).1) (by intro h; injection h with h; omega)]; exact p1, p2, fun j hj => by rw [p3 j hj]; rfl⟩, ⟨O, o1, o2, o3⟩⟩)
      have hS0' : 0 < sumN (wts Z) k := by rw [HS.out]; exact hS0
      have TK := Lib.hid (tkd_all hp7.out hs7.out)
      have ON := Lib.hid (perm_onto hp7.out)
      have FIN := Lib.hid (show ∀ j, j < k → prt (wts Z) k T j = flo (wts Z) k T j + b01 (tkd d L j) from fun j hj => by
        unfold prt
        rw [← HL.out]
        congr 2
        rw [Bool.eq_iff_iff, decide_eq_true_iff]
        obtain ⟨g1, g2⟩ := TK.out L hLn
        exact rk_closed g1 g2 j hj)
      have PL := Lib.hid (fun (j : Nat) (hj : j < k) => prt_le (W := wts Z) (T := T) hS0' hj)
      clear HW hR7 hp7 hs7 HS HL cm HX HA HPP HF hS0'
      go_loopg [100] L (fun gh vp wr => ∃ p : Nat, p ≤ L ∧ gh = L - p ∧ vp = .int .i64 p ∧ SplX w wr gp go k p d (wts Z) T)
      case atStart => exact ⟨0, by omega, by omega, rfl, X0.out⟩
      case round =>
        clear X0
        obtain ⟨p, hp, rfl, rfl, hX⟩ := hrel
        have HX := Lib.hid hX
        clear hX
        by_cases hlt : p < L
        · obtain ⟨P, p1, p2, p3⟩ := HX.out.p
          obtain ⟨O, o1, o2, o3⟩ := HX.out.o
          obtain ⟨x, hx⟩ : ∃ x, x = d p := ⟨_, rfl⟩
          have hxk : x < k := by rw [hx]; exact ON.out.1 p (by omega)
          have hf : tkd d p x = false := by
            rw [Bool.eq_false_iff]; intro ht
            obtain ⟨i, hi, e⟩ := (tkd_iff d p x).1 ht
            have := ON.out.2.1 i p (by rw [e, hx]); omega
          have ht : tkd d L x = true := (tkd_iff d L x).2 ⟨p, hlt, hx.symm⟩
          obtain ⟨q, hq⟩ : ∃ q, q = flo (wts Z) k T x := ⟨_, rfl⟩
          have hq1 : q + 1 ≤ T := by
            have h1 := PL.out x hxk
            rw [FIN.out x hxk, ht, ← hq] at h1
            exact h1
          have c1 := ((cells_of o1).1 p).trans (o3 p (by omega))
          have c2 := ((cells_of p1).1 x).trans (p3 x hxk)
          have f2 := (cells_of p1).2.1 x
          rw [hf, ← hq, show b01 false = 0 from rfl, Nat.add_zero] at c2
          rw [← hx] at c1
          have hTb := HN.out.1
          have wq := wrapN64 (z := (q : Int) + 1) (n := q + 1) (by omega) (by omega)
          have hpi : (p : Int) < L := by omega
          have hpk : (p : Int) < k := by omega
          have hxi : (x : Int) < k := by omega
          have NX := Lib.hid (fun (v : Value) (hv : v = .int .i64 (q + 1 : Nat)) => show SplX w (wr.setCell ⟨gp, x, none⟩ v) gp go k (p + 1) d (wts Z) T from by
            rw [hx]
            have hG := HG.out
            exact HX.out.next hG.1 (by omega) (by rw [← hx]; exact hxk) (by rw [← hx]; exact hf) (by rw [hv, hq, hx]))
          clear p1 p2 p3 o1 o2 o3 hx hf ht hq hTb
          go_wp2
          go_roundg (L - (p + 1))
          case measure => omega
          case rel => exact ⟨p + 1, by omega, rfl, by go_num, NX.out _ rfl⟩
        · obtain rfl : p = L := by omega
          obtain ⟨P, p1, p2, p3⟩ := HX.out.p
          have HP1 := Lib.hid p1
          have HP2 := Lib.hid p2
          have HP3 := Lib.hid p3
          clear p1 p2 p3
          go_wp2
          go_ret2
          exact ⟨⟨gp, P, rfl, HG.out.1, HP1.out, HP2.out, fun i hi => by rw [HP3.out i hi, FIN.out i hi]⟩, HX.out.below⟩
end Go.Proofs.Ytanfhjfpdgjphaa
