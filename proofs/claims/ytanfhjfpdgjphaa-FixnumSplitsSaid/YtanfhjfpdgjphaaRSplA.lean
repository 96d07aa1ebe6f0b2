/- The document's Split, plainly: sizes have digits; what a round of the last loop does. No condition. -/
import Derived.Test.YtanfhjfpdgjphaaRSpl2
import Derived.Test.YtanfhjfpdgjphaaSl1
namespace Go.Proofs.Ytanfhjfpdgjphaa
set_option linter.unusedVariables false
set_option linter.unusedSimpArgs false
open Go.RowKit

theorem dig_ex {v : Int} (h0 : 0 ≤ v) (h1 : v < P16 12) : ∃ D, IsD D ∧ lv D 12 = v := by
  refine ⟨oD v 12, oD_D v 12, ?_⟩
  have h := oD_low v 12 (by omega)
  have b := lv_bd (oD_D v 12) 12 (by omega)
  have hk : nk v 12 = 0 := by
    have hp := P16_pos 12
    rcases (show nk v 12 < 0 ∨ nk v 12 = 0 ∨ 0 < nk v 12 by omega) with g | g | g
    · have : nk v 12 * P16 12 ≤ (-1) * P16 12 := Int.mul_le_mul_of_nonneg_right (by omega) (by omega)
      omega
    · exact g
    · have : 1 * P16 12 ≤ nk v 12 * P16 12 := Int.mul_le_mul_of_nonneg_right (by omega) (by omega)
      omega
  rw [hk, Int.zero_mul, Int.add_zero] at h
  exact h
theorem DV_ok {v : Int} (h0 : 0 ≤ v) (h1 : v < P16 12) : IsD (DV v) ∧ lv (DV v) 12 = v := by
  obtain ⟨D, hD, hv⟩ := dig_ex h0 h1
  exact dv_of hD hv
theorem oV_DV {v : Int} (h : F64 v) (h0 : 0 ≤ v) : nm (oS v) (oV v) = nm false (DV v) := by
  rw [oS_pos h0, dv_eq (oV_D v) (oV_lv h h0)]
/-- floors and rests as the walk has them -/
theorem flo_int {Z : Nat → Int} {n k : Nat} {T : Int} (hT : 0 ≤ T) (hP : ∀ i, i < n → 0 ≤ Z i) (hk : k < n) : ((flo (wts Z) n T.toNat k : Nat) : Int) = T * Z k / sumZ Z n ∧ ((res (wts Z) n T.toNat k : Nat) : Int) = T * Z k % sumZ Z n := by
  have hsn := wts_sum n hP
  have hw : ((wts Z k : Nat) : Int) = Z k := by have := hP k hk; unfold wts; omega
  have hT2 : ((T.toNat : Nat) : Int) = T := by omega
  unfold flo res
  rw [Int.natCast_ediv, Int.natCast_emod, Int.natCast_mul, hw, hT2, ← hsn]
  exact ⟨rfl, rfl⟩
/-- a round of the last loop -/
structure Stp (W : Nat → Nat) (n T : Nat) (tk : Nat → Bool) (x r : Nat) : Prop where
  no : tk x = false
  clo : Clo (rkey W n T) n (fun i => decide (i = x) || tk i)
  cnt : cnt (fun i => decide (i = x) || tk i) n = r + 1
  le : flo W n T x + 1 ≤ T
theorem stp_of {W : Nat → Nat} {n T x r : Nat} {tk : Nat → Bool} (hS : 0 < sumN W n) (h : Clo (rkey W n T) n tk) (hr : cnt tk n = r) (hc : r < lef W n T) (hx : x < n)
    (hmax : ∀ y, y < n → rst W n T tk y ≤ rst W n T tk x ∧ (y < x → rst W n T tk y < rst W n T tk x)) : Stp W n T tk x r := by
  obtain ⟨h1, h2, h3⟩ := rst_next hS h (by omega) hx hmax
  rw [hr] at h3
  refine ⟨h1, h2, h3, ?_⟩
  have h4 := (rk_closed h2 h3 x hx).2 (by simp)
  have h5 := prt_le (T := T) hS hx
  unfold prt at h5
  rw [decide_eq_true (show rk (rkey W n T) n x < lef W n T by omega)] at h5
  exact h5
/-- the greatest of the first k rests stands at x -/
def Grt (W : Nat → Nat) (n T : Nat) (tk : Nat → Bool) (x k : Nat) : Prop := ∀ y, y < k → rst W n T tk y ≤ rst W n T tk x ∧ (y < x → rst W n T tk y < rst W n T tk x)
theorem grt_one {W : Nat → Nat} {n T : Nat} {tk : Nat → Bool} : Grt W n T tk 0 1 := fun y hy => by
  obtain rfl : y = 0 := by omega
  exact ⟨Nat.le_refl _, fun h => by omega⟩
theorem grt_keep {W : Nat → Nat} {n T x k : Nat} {tk : Nat → Bool} (h : Grt W n T tk x k) (hx : x < k) (hn : ¬ rst W n T tk x < rst W n T tk k) : Grt W n T tk x (k + 1) := fun y hy => by
  by_cases e : y = k
  · subst e; exact ⟨by omega, fun hl => by omega⟩
  · exact h y (by omega)
theorem grt_new {W : Nat → Nat} {n T x k : Nat} {tk : Nat → Bool} (h : Grt W n T tk x k) (hx : x < k) (hn : rst W n T tk x < rst W n T tk k) : Grt W n T tk k (k + 1) := fun y hy => by
  by_cases e : y = k
  · subst e; exact ⟨Nat.le_refl _, fun hl => by omega⟩
  · have := h y (by omega)
    exact ⟨by omega, fun _ => by omega⟩
/-- the two rows of the last loop: the parts so far, the rests so far -/
structure Sp3 (w wr : World) (gp gr n cap : Nat) (F R : Nat → Nat) : Prop where
  below : Below w.heap.size w wr
  lp : w.heap.size ≤ gp
  lr : w.heap.size ≤ gr
  lc : n ≤ cap ∧ cap ≤ maxLen
  p : ∃ P, wr.heap[gp]? = some (.cells P 2 (0, 0)) ∧ P.size = cap ∧ ∀ j, j < n → P[j]? = some (.int .i64 (F j : Nat))
  r : ∃ A, wr.heap[gr]? = some (.cells A 47 (0, 0)) ∧ n * 13 ≤ A.size ∧ ∀ j, j < n → A.extract (j * 13) (j * 13 + 13) = nm false (DV (R j : Nat))
theorem Sp3.ne {w wr : World} {gp gr n cap : Nat} {F R : Nat → Nat} (h : Sp3 w wr gp gr n cap F R) : gp ≠ gr := fun e => by
  obtain ⟨P, h1, _⟩ := h.p
  obtain ⟨A, h2, _⟩ := h.r
  rw [← e, h1] at h2
  injection h2 with h2
  injection h2 with _ h3
  exact absurd h3 (by decide)
theorem Sp3.after {w wr w' : World} {gp gr n cap : Nat} {F R : Nat → Nat} (h : Sp3 w wr gp gr n cap F R) (hb : Below wr.heap.size wr w') : Sp3 w w' gp gr n cap F R := by
  obtain ⟨P, h1, h2⟩ := h.p
  obtain ⟨A, h3, h4⟩ := h.r
  exact ⟨below_then h.below hb, h.lp, h.lr, h.lc, ⟨P, Ytanfhjfpdgjphaa.kept hb h1, h2⟩, ⟨A, Ytanfhjfpdgjphaa.kept hb h3, h4⟩⟩
theorem own_zl {w : World} {base n : Nat} {v : Value} {Z : Nat → Int} (hn : 0 < n) (h : w.ownsRow base 2 1 v n (zl Z n)) :
    ∃ g cap cur, v = .slice (some ⟨g, 0, none⟩) n cap ∧ base ≤ g ∧ w.heap[g]? = some (.cells cur 2 (0, 0)) ∧ n ≤ cap ∧ cap ≤ maxLen ∧ cur.size = cap ∧ ∀ j, j < n → cur[j]? = some (.int .i64 (Z j)) := by
  obtain ⟨_, ⟨_, h0⟩ | ⟨g, cap, cur, hv, hb, hg, hnc, hm, hc, ht⟩⟩ := h
  · omega
  · refine ⟨g, cap, cur, hv, hb, hg, hnc, hm, by omega, fun j hj => ?_⟩
    rw [← zl_at Z hj, ← ht, List.getElem?_take, if_pos (by omega), Array.getElem?_toList]
theorem own_flat {w : World} {base n c : Nat} {e : TypeId} {v : Value} {L : Nat → Array Value} (hL : ∀ i, (L i).size = c) (hn : 0 < n) (h : w.ownsRow base e c v n (flat L n)) :
    ∃ g cap cur, v = .slice (some ⟨g, 0, none⟩) n cap ∧ base ≤ g ∧ w.heap[g]? = some (.cells cur e (0, 0)) ∧ n ≤ cap ∧ n * c ≤ cur.size ∧ ∀ j, j < n → cur.extract (j * c) (j * c + c) = L j := by
  obtain ⟨_, ⟨_, h0⟩ | ⟨g, cap, cur, hv, hb, hg, hnc, hm, hc, ht⟩⟩ := h
  · omega
  · have hsz : n * c ≤ cur.size := by rw [hc]; exact Nat.mul_le_mul_right _ hnc
    refine ⟨g, cap, cur, hv, hb, hg, hnc, hsz, fun j hj => ?_⟩
    have hlt : (j + 1) * c ≤ n * c := Nat.mul_le_mul_right _ (by omega)
    rw [Nat.add_mul, Nat.one_mul] at hlt
    apply Array.ext_getElem?
    intro i
    rw [Array.getElem?_extract]
    by_cases hi : i < c
    · rw [if_pos (by omega), ← flatc_at hL n j i hj hi, ← ht, List.getElem?_take, if_pos (by omega), Array.getElem?_toList]
    · rw [if_neg (by omega), Array.getElem?_eq_none_iff.2 (by rw [hL]; omega)]
/-- the rows that the second loop has made -/
theorem Sp3.start {w wr : World} {n : Nat} {vp vr : Value} {F R : Nat → Nat} (hn : 0 < n) (hb : Below w.heap.size w wr) (hp : wr.ownsRow w.heap.size 2 1 vp n (zl (fun i => (F i : Nat)) n)) (hR : ∀ i, (nm false (DV (R i : Nat))).size = 13)
    (hr : wr.ownsRow w.heap.size 47 13 vr n (flat (fun i => nm false (DV (R i : Nat))) n)) :
    ∃ gp gr cap cap2, vp = .slice (some ⟨gp, 0, none⟩) n cap ∧ vr = .slice (some ⟨gr, 0, none⟩) n cap2 ∧ n ≤ cap2 ∧ Sp3 w wr gp gr n cap F R := by
  obtain ⟨gp, cap, P, h1, h2, h3, h4, h5, h6, h7⟩ := own_zl hn hp
  obtain ⟨gr, cap2, A, g1, g2, g3, g4, g5, g6⟩ := own_flat hR hn hr
  exact ⟨gp, gr, cap, cap2, h1, g1, g4, hb, h2, g2, ⟨h4, h5⟩, ⟨P, h3, h6, h7⟩, ⟨A, g3, g5, g6⟩⟩
theorem Sp3.inc {w wr : World} {gp gr n cap x : Nat} {F R : Nat → Nat} {v : Value} (h : Sp3 w wr gp gr n cap F R) (hx : x < n) (hv : v = .int .i64 (F x + 1 : Nat)) : Sp3 w (wr.setCell ⟨gp, x, none⟩ v) gp gr n cap (fun i => if i = x then F x + 1 else F i) R := by
  obtain ⟨P, h1, h2, h3⟩ := h.p
  obtain ⟨A, h4, h5⟩ := h.r
  have hc := h.lc
  refine ⟨below_set h.below h.lp, h.lp, h.lr, h.lc, ⟨_, heap_set h1, by simpa using h2, fun j hj => ?_⟩, ⟨A, heap_set_other h4 h.ne.symm, h5⟩⟩
  by_cases e : j = x
  · subst e
    rw [Array.getElem?_setIfInBounds_self_of_lt (by omega), hv, if_pos rfl]
  · rw [Array.getElem?_setIfInBounds_ne (by omega), if_neg e]
    exact h3 j hj
theorem Sp3.zero {w wr w1 : World} {gp gr n cap x : Nat} {F R : Nat → Nat} {A : Array Value} (h : Sp3 w wr gp gr n cap F R) (hx : x < n) (hA : wr.heap[gr]? = some (.cells A 47 (0, 0)))
    (hc : w1.heap[gr]? = some (.cells (splice A (x * 13) (nm false (DV 0))) 47 (0, 0))) (hs : (nm false (DV 0)).size = 13) (ho : ∀ k, k ≠ gr → w1.heap[k]? = wr.heap[k]?) (hb : ∀ B, B ≤ gr → Below B wr w1) : Sp3 w w1 gp gr n cap F (fun i => if i = x then 0 else R i) := by
  obtain ⟨P, h1, h2⟩ := h.p
  obtain ⟨A2, h4, h5, h6⟩ := h.r
  rw [hA] at h4
  injection h4 with h4
  injection h4 with h4
  subst h4
  have hlt : (x + 1) * 13 ≤ n * 13 := Nat.mul_le_mul_right _ (by omega)
  refine ⟨h.below.trans (hb _ h.lr), h.lp, h.lr, h.lc, ⟨P, (ho _ h.ne).trans h1, h2⟩, ⟨_, hc, by rw [splice_size (by omega)]; exact h5, fun j hj => ?_⟩⟩
  have hj2 : (j + 1) * 13 ≤ n * 13 := Nat.mul_le_mul_right _ (by omega)
  apply Array.ext_getElem?
  intro i
  rw [Array.getElem?_extract, splice_size (by omega)]
  by_cases e : j = x
  · subst e
    rw [if_pos rfl]
    by_cases hi : i < 13
    · rw [if_pos (by omega), splice_get (by omega), if_pos (by omega), show j * 13 + i - j * 13 = i by omega]; rfl
    · rw [if_neg (by omega), Array.getElem?_eq_none_iff.2 (by show (nm false (DV 0)).size ≤ i; omega)]
  · rw [if_neg e, ← h6 j hj, Array.getElem?_extract]
    by_cases hi : i < 13
    · rw [if_pos (by omega), if_pos (by omega), splice_get (by omega), if_neg (by omega)]
    · rw [if_neg (by omega), if_neg (by omega)]
theorem Sp3.congr {w wr : World} {gp gr n cap : Nat} {F R F' R' : Nat → Nat} (h : Sp3 w wr gp gr n cap F R) (e1 : ∀ i, i < n → F i = F' i) (e2 : ∀ i, i < n → R i = R' i) : Sp3 w wr gp gr n cap F' R' := by
  obtain ⟨P, h1, h2, h3⟩ := h.p
  obtain ⟨A, h4, h5, h6⟩ := h.r
  exact ⟨h.below, h.lp, h.lr, h.lc, ⟨P, h1, h2, fun j hj => by rw [← e1 j hj]; exact h3 j hj⟩, ⟨A, h4, h5, fun j hj => by rw [← e2 j hj]; exact h6 j hj⟩⟩
/-- the two rows of the second loop -/
structure Lp2 (w wr : World) (vp vr : Value) (k j : Nat) (F : Nat → Int) (L : Nat → Array Value) : Prop where
  be : Below w.heap.size w wr
  p : wr.ownsRow w.heap.size 2 1 vp k (zl F k)
  r : wr.ownsRow w.heap.size 47 13 vr j (flat L j)
theorem Lp2.after {w wr w' : World} {vp vr : Value} {k j : Nat} {F : Nat → Int} {L : Nat → Array Value} (h : Lp2 w wr vp vr k j F L) (hb : Below wr.heap.size wr w') : Lp2 w w' vp vr k j F L :=
  ⟨below_then h.be hb, own_below hb h.p, own_below hb h.r⟩
theorem own_diff {w : World} {b1 b2 s1 s2 n1 n2 : Nat} {e1 e2 : TypeId} {v1 v2 : Value} {x1 x2 : List Value} (h1 : w.ownsRow b1 e1 s1 v1 n1 x1) (h2 : w.ownsRow b2 e2 s2 v2 n2 x2) (hne : e1 ≠ e2) : v1.ownBlock = none ∨ v1.ownBlock ≠ v2.ownBlock := by
  cases hv : v1.ownBlock with
  | none => exact .inl rfl
  | some g =>
    right
    intro e
    obtain ⟨A, f, ha⟩ := own_tag h1 g hv
    obtain ⟨B, f2, hb⟩ := own_tag h2 g e.symm
    rw [ha] at hb
    injection hb with hb
    injection hb with _ hb
    exact hne hb
theorem Lp2.app1 {w wr w' : World} {vp vr v : Value} {k j : Nat} {F : Nat → Int} {L : Nat → Array Value} {X : Obj} (h : Lp2 w wr vp vr k j F L) (ho : w'.ownsRow w.heap.size 2 1 v (k + 1) (zl F k ++ zl (fun _ => F k) 1)) (hg : (wr.alloc X).grownBy w' vp.ownBlock) :
    Lp2 w w' v vr (k + 1) j F L ∧ ∀ (g : Nat) (A : Array Value), wr.heap[g]? = some (.cells A 47 (0, 0)) → w'.heap[g]? = some (.cells A 47 (0, 0)) := by
  have hz := h.be.size
  refine ⟨⟨(below_alloc h.be X).grown hg (by simp; omega) (fun q hq => (h.p.lt q hq).1), by rw [← zl_snoc]; exact ho, (h.r.alloc X).kept hg (own_diff h.r h.p (by decide))⟩, fun g A hA => ?_⟩
  have hlt := (Array.getElem?_eq_some_iff.1 hA).1
  rw [hg.block g (by simp; omega) (fun e => ?_)]
  · exact heap_up hA
  · obtain ⟨B, f, hb⟩ := own_tag h.p g e.symm
    rw [hA] at hb
    injection hb with hb
    injection hb with _ hb
    exact absurd hb (by decide)
theorem Lp2.app2 {w wr w' : World} {vp vr v : Value} {k j : Nat} {F : Nat → Int} {L : Nat → Array Value} {X : Obj} (h : Lp2 w wr vp vr k j F L) (ho : w'.ownsRow w.heap.size 47 13 v (j + 1) (flat L j ++ (L j).toList)) (hg : (wr.alloc X).grownBy w' vr.ownBlock) :
    Lp2 w w' vp v k (j + 1) F L := by
  have hz := h.be.size
  exact ⟨(below_alloc h.be X).grown hg (by simp; omega) (fun q hq => (h.r.lt q hq).1), (h.p.alloc X).kept hg (own_diff h.p h.r (by decide)), ho⟩
/-- the row of the parts at the end -/
theorem Sp3.fin {w wr : World} {gp gr n cap : Nat} {F R G : Nat → Nat} (h : Sp3 w wr gp gr n cap F R) (e : ∀ i, i < n → F i = G i) : wr.ownsRow w.heap.size 2 1 (.slice (some ⟨gp, 0, none⟩) n cap) n (zl (fun i => (G i : Nat)) n) := by
  obtain ⟨P, h1, h2, h3⟩ := h.p
  refine ⟨by rw [zl_len]; omega, .inr ⟨gp, cap, P, rfl, h.lp, h1, h.lc.1, h.lc.2, by omega, ?_⟩⟩
  apply List.ext_getElem?
  intro i
  rw [List.getElem?_take]
  by_cases hi : i < n
  · rw [if_pos (by omega), Array.getElem?_toList, h3 i hi, zl_at _ hi, e i hi]
  · rw [if_neg (by omega), List.getElem?_eq_none_iff.2 (by rw [zl_len]; omega)]
end Go.Proofs.Ytanfhjfpdgjphaa
