/- Texts that Settles13Law stands on, one behind the other, part 14. Conditions: each theorem names its own. -/
import Derived.Test.YticdcdahehodkaaMgSettles13Law13
import Derived.Deep.RegionHeld3
/-! The document's Split, plainly: its quotients and rests. No condition. -/
namespace Go.Proofs.Yticdcdahehodkaa
set_option linter.unusedVariables false
set_option linter.unusedSimpArgs false
open Go.RowKit

theorem oS_pos {x : Int} (h : 0 ≤ x) : oS x = false := by unfold oS; exact decide_eq_false (by omega)
theorem xs_sign {Z : Nat → Int} : ∀ k, (∀ i, i < k → 0 ≤ Z i) → (xs Z k).1 = false
  | 0, _ => oS_pos (Int.le_refl 0)
  | k + 1, h => by
    have e1 := xs_sign k (fun i hi => h i (by omega))
    have e2 := oS_pos (h k (by omega))
    show psS (xs Z k).1 (xs Z k).2 (oS (Z k)) (oV (Z k)) = false
    rw [e1, e2]; unfold psS; rw [if_pos rfl]
theorem oV_lv {x : Int} (hx : F64 x) (h : 0 ≤ x) : lv (oV x) 12 = x := by
  have := (o_val hx).1
  rw [oS_pos h] at this
  exact this
/-- the quotient and the rest of one part -/
theorem qr_val {Z : Nat → Int} {n i : Nat} {T u : Int} {D A Q R : Array Value} (hi : i < n) (hF : ∀ i, F64 (Z i)) (hP : ∀ i, i < n → 0 ≤ Z i) (hT : 0 < T) (hTF : F64 T)
    (hD : IsD D) (hDu : lv D 12 + u * P16 12 = lv (oV T) 12 * lv (oV (Z i)) 12) (hA : lv A 12 = sumZ Z n) (hS : 0 < sumZ Z n) (ho : Ov D A Q R 0) :
    lv Q 12 = (flo (wts Z) n T.toNat i : Nat) ∧ lv R 12 = (res (wts Z) n T.toNat i : Nat) := by
  have e1 := oV_lv hTF (by omega)
  have e2 := oV_lv (hF i) (hP i hi)
  rw [e1, e2] at hDu
  have hz := hF i
  have hzp := hP i hi
  unfold F64 at hz hTF
  have b := lv_bd hD 12 (by omega)
  have hm : T * Z i ≤ 9223372036854775807 * 9223372036854775807 := Int.mul_le_mul hTF.2 hz.2 hzp (by omega)
  have hm0 : 0 ≤ T * Z i := Int.mul_nonneg (by omega) hzp
  have hp := P16_12
  have hu : u = 0 := by
    rcases (show u < 0 ∨ u = 0 ∨ 0 < u by omega) with h | h | h
    · have : u * P16 12 ≤ (-1) * P16 12 := Int.mul_le_mul_of_nonneg_right (by omega) (by omega)
      omega
    · exact h
    · have : 1 * P16 12 ≤ u * P16 12 := Int.mul_le_mul_of_nonneg_right (by omega) (by omega)
      omega
  subst hu
  rw [Int.zero_mul, Int.add_zero] at hDu
  have hv := ho.v
  have hup : up D 0 = lv D 12 := by unfold up; simp
  rw [hup, hDu, hA] at hv
  have hl := ho.l
  rw [hA] at hl
  have q0 := (lv_bd ho.q 12 (by omega)).1
  have r0 := (lv_bd ho.r 12 (by omega)).1
  have hsn := wts_sum n hP
  have hw : ((wts Z i : Nat) : Int) = Z i := by unfold wts; omega
  have hT2 : ((T.toNat : Nat) : Int) = T := by omega
  have hdiv : lv Q 12 = (T * Z i) / sumZ Z n ∧ lv R 12 = (T * Z i) % sumZ Z n := by
    rw [← hv]
    constructor
    · rw [Int.add_comm, Int.add_mul_ediv_right _ _ (by omega), Int.ediv_eq_zero_of_lt r0 hl]; omega
    · rw [Int.add_comm, Int.add_mul_emod_self_right, Int.emod_eq_of_lt r0 hl]
  unfold flo res
  rw [Int.natCast_ediv, Int.natCast_emod, Int.natCast_mul, hw, hT2, ← hsn]
  exact hdiv
/-- the rests that are left: those who had one more have none -/
def rst (W : Nat → Nat) (n T : Nat) (tk : Nat → Bool) (i : Nat) : Nat := if tk i = true then 0 else res W n T i
theorem rst_put {W : Nat → Nat} {n T x : Nat} {tk : Nat → Bool} (i : Nat) : rst W n T (fun i => decide (i = x) || tk i) i = if i = x then 0 else rst W n T tk i := by
  unfold rst
  by_cases e : i = x
  · simp [e]
  · simp [e]
/-- while something is left, somebody who has none yet has a rest -/
theorem rst_some {W : Nat → Nat} {n T : Nat} {tk : Nat → Bool} (hS : 0 < sumN W n) (hc : cnt tk n < lef W n T) : ∃ y, y < n ∧ 0 < rst W n T tk y := by
  apply Classical.byContradiction
  intro hno
  have h1 := lef_pos (T := T) hS
  have h2 : cnt (fun i => decide (0 < res W n T i)) n ≤ cnt tk n := cnt_mono fun i hi hp => by
    rw [decide_eq_true_iff] at hp
    cases ht : tk i
    · exact absurd ⟨i, hi, by unfold rst; rw [ht]; simpa using hp⟩ hno
    · rfl
  omega
/-- the first greatest rest is the next one's -/
theorem rst_next {W : Nat → Nat} {n T x : Nat} {tk : Nat → Bool} (hS : 0 < sumN W n) (h : Clo (rkey W n T) n tk) (hc : cnt tk n < lef W n T) (hx : x < n)
    (hmax : ∀ y, y < n → rst W n T tk y ≤ rst W n T tk x ∧ (y < x → rst W n T tk y < rst W n T tk x)) :
    tk x = false ∧ Clo (rkey W n T) n (fun i => decide (i = x) || tk i) ∧ cnt (fun i => decide (i = x) || tk i) n = cnt tk n + 1 := by
  obtain ⟨y, hy, hp⟩ := rst_some hS hc
  have hxp : 0 < rst W n T tk x := by have := (hmax y hy).1; omega
  have hf : tk x = false := by
    cases ht : tk x
    · rfl
    · unfold rst at hxp; rw [ht] at hxp; simp at hxp
  refine ⟨hf, h.next hx hf fun z hz hzf => ?_⟩
  obtain ⟨m1, m2⟩ := hmax z hz
  unfold rst at m1 m2
  rw [hzf, hf] at m1 m2
  simp only [Bool.false_eq_true, if_false] at m1 m2
  unfold ltK rkey
  by_cases e : z = x
  · exact .inl e
  · right
    by_cases hl : z < x
    · have := m2 hl; omega
    · omega
/-- when nothing is left, the parts are the split's -/
theorem rst_done {W : Nat → Nat} {n T : Nat} {tk : Nat → Bool} (h : Clo (rkey W n T) n tk) (hc : cnt tk n = lef W n T) {i : Nat} (hi : i < n) : flo W n T i + b01 (tk i) = prt W n T i := by
  have := rk_closed h hc i hi
  unfold prt
  cases ht : tk i
  · rw [ht] at this
    rw [decide_eq_false (by rw [this]; simp)]
  · rw [ht] at this
    rw [decide_eq_true (this.2 rfl)]
/-- a size has its digits -/
theorem lv_dig {A B : Array Value} (hA : IsD A) (hB : IsD B) : ∀ k, k ≤ 12 → lv A k = lv B k → ∀ i, i < k → N A i = N B i
  | 0, _, _, i, hi => by omega
  | k + 1, hk, h, i, hi => by
    rw [lv, lv] at h
    have a := lv_bd hA k (by omega)
    have b := lv_bd hB k (by omega)
    have hp := P16_pos k
    have e : N A k = N B k := by
      rcases (show N A k < N B k ∨ N A k = N B k ∨ N B k < N A k by omega) with g | g | g
      · have : (N A k + 1) * P16 k ≤ N B k * P16 k := Int.mul_le_mul_of_nonneg_right (by omega) (by omega)
        rw [Int.add_mul, Int.one_mul] at this
        omega
      · exact g
      · have : (N B k + 1) * P16 k ≤ N A k * P16 k := Int.mul_le_mul_of_nonneg_right (by omega) (by omega)
        rw [Int.add_mul, Int.one_mul] at this
        omega
    by_cases ei : i = k
    · subst ei; exact e
    · rw [e] at h
      exact lv_dig hA hB k (by omega) (by omega) i (by omega)
theorem lv_inj {A B : Array Value} (hA : IsD A) (hB : IsD B) (h : lv A 12 = lv B 12) : A = B := by
  apply Array.ext_getElem?
  intro i
  by_cases hi : i < 12
  · rw [(hA.c i hi).1, (hB.c i hi).1, lv_dig hA hB 12 (by omega) h i hi]
  · rw [Array.getElem?_eq_none_iff.2 (by rw [hA.size]; omega), Array.getElem?_eq_none_iff.2 (by rw [hB.size]; omega)]
open Classical in
/-- the digits of a size -/
noncomputable def DV (v : Int) : Array Value := if h : ∃ D, IsD D ∧ lv D 12 = v then Classical.choose h else z12
theorem dv_eq {D : Array Value} {v : Int} (h : IsD D) (hv : lv D 12 = v) : D = DV v := by
  have hx : ∃ D, IsD D ∧ lv D 12 = v := ⟨D, h, hv⟩
  unfold DV
  rw [dif_pos hx]
  obtain ⟨h1, h2⟩ := Classical.choose_spec hx
  exact lv_inj h h1 (by rw [hv, h2])
theorem prod_small {T z u : Int} {D : Array Value} (hT : F64 T) (h0 : 0 ≤ T) (hz : F64 z) (hzp : 0 ≤ z) (hD : IsD D) (hDu : lv D 12 + u * P16 12 = lv (oV T) 12 * lv (oV z) 12) : lv D 12 = T * z := by
  rw [oV_lv hT h0, oV_lv hz hzp] at hDu
  unfold F64 at hz hT
  have b := lv_bd hD 12 (by omega)
  have hm : T * z ≤ 9223372036854775807 * 9223372036854775807 := Int.mul_le_mul hT.2 hz.2 hzp (by omega)
  have hm0 : 0 ≤ T * z := Int.mul_nonneg (by omega) hzp
  have hp := P16_12
  have hu : u = 0 := by
    rcases (show u < 0 ∨ u = 0 ∨ 0 < u by omega) with h | h | h
    · have : u * P16 12 ≤ (-1) * P16 12 := Int.mul_le_mul_of_nonneg_right (by omega) (by omega)
      omega
    · exact h
    · have : 1 * P16 12 ≤ u * P16 12 := Int.mul_le_mul_of_nonneg_right (by omega) (by omega)
      omega
  subst hu
  omega
/-- the product, its digits fixed: it serves in a region that draws -/
theorem rtimes_dv {T z : Int} (hT : F64 T) (h0 : 0 ≤ T) (hz : F64 z) (hzp : 0 ≤ z) (w : World) :
    Calls Try.prog 39 #[.agg (nm (oS T) (oV T)), .agg (nm (oS z) (oV z))] w fun e w' => e = .returned (.agg (nm false (DV (T * z)))) ∧ Below w.heap.size w w' :=
  (times_any (oS T) (oS z) (oV T) (oV z) w (oV_D T) (oV_D z)).mono fun e w' ⟨⟨D, u, he, hD, hv⟩, hb⟩ => ⟨by
    rw [he, oS_pos h0, oS_pos hzp, dv_eq hD (prod_small hT h0 hz hzp hD hv)]; rfl, hb⟩
theorem dv_of {D : Array Value} {v : Int} (h : IsD D) (hv : lv D 12 = v) : IsD (DV v) ∧ lv (DV v) 12 = v := by
  rw [← dv_eq h hv]; exact ⟨h, hv⟩
/-- the quotient and the rest, their digits fixed -/
theorem rover_dv {Z : Nat → Int} {n : Nat} {p : Int} {D : Array Value} (hF : ∀ i, F64 (Z i)) (hP : ∀ i, i < n → 0 ≤ Z i) (hn : n ≤ 1000) (hS : 0 < sumZ Z n) (hD : IsD D) (hp : lv D 12 = p) (w : World) :
    Calls Try.prog 40 #[.agg (nm false (DV p)), .agg (xn Z n)] w fun e w' => e = .returned (.tuple #[.agg (nm false (DV (p / sumZ Z n))), .agg (nm false (DV (p % sumZ Z n)))]) ∧ Below w.heap.size w w' := by
  obtain ⟨h1, h2, h3⟩ := xs_all hF n (by omega)
  have hs := xs_sign n hP
  obtain ⟨d1, d2⟩ := dv_of hD hp
  rw [hs] at h2
  have hl : lv (xs Z n).2 12 = sumZ Z n := h2
  have hpp := P16_12
  have c := over_any false (xs Z n).1 (DV p) (xs Z n).2 w d1 h1 (by omega) (by omega)
  refine c.mono fun e w' ⟨ho, hb⟩ => ⟨?_, hb⟩
  obtain ⟨S, C, Q, R, he, hC, hov, hsc⟩ := ho
  rw [hs] at hsc
  have hsc2 : (S, C) = (false, Q) := by simpa using hsc
  obtain ⟨rfl, rfl⟩ : S = false ∧ C = Q := by injection hsc2 with a b; exact ⟨a, b⟩
  have hv := hov.v
  have hup : up (DV p) 0 = lv (DV p) 12 := by unfold up; simp
  rw [hup, d2, hl] at hv
  have hlt := hov.l
  rw [hl] at hlt
  have r0 := (lv_bd hov.r 12 (by omega)).1
  have q1 : lv C 12 = p / sumZ Z n := by
    rw [← hv, Int.add_comm, Int.add_mul_ediv_right _ _ (by omega), Int.ediv_eq_zero_of_lt r0 hlt]; omega
  have q2 : lv R 12 = p % sumZ Z n := by
    rw [← hv, Int.add_comm, Int.add_mul_emod_self_right, Int.emod_eq_of_lt r0 hlt]
  rw [he, dv_eq hov.q q1, dv_eq hov.r q2]
/-- the digits as a number again -/
theorem rint_dv {v : Int} {D : Array Value} (hD : IsD D) (hv : lv D 12 = v) (h0 : 0 ≤ v) (h1 : v ≤ 9223372036854775807) (w : World) :
    Calls Try.prog 38 #[.agg (nm false (DV v))] w fun e w' => e = .returned (.tuple #[.int .i64 v, .bool true]) ∧ Below w.heap.size w w' := by
  obtain ⟨d1, d2⟩ := dv_of hD hv
  have c := int_any false (DV v) w d1
  have e : sv false (DV v) = v := d2
  have f := fit_yes (v := v) ⟨by omega, h1⟩
  rw [e, f.1, f.2.1] at c
  exact c
/-- two sizes compared -/
theorem rless_dv {u v : Int} {A B : Array Value} (hA : IsD A) (hu : lv A 12 = u) (hB : IsD B) (hv : lv B 12 = v) (w : World) :
    Calls Try.prog 41 #[.agg (DV u), .agg (DV v)] w fun e w' => e = .returned (.bool (decide (u < v))) ∧ Below w.heap.size w w' := by
  obtain ⟨a1, a2⟩ := dv_of hA hu
  obtain ⟨b1, b2⟩ := dv_of hB hv
  have c := less_any (DV u) (DV v) w a1 b1
  rw [a2, b2] at c
  exact c
theorem info_num : ∃ i z, Try.prog.info? 58 = some i ∧ i.zero = some z ∧ i.size = 13 ∧ i.bytes ≤ 1000 ∧ z.cells.size = 13 := by
  have h : (Try.prog.info? 58).map (fun i => (i.size, decide (i.bytes ≤ 1000), i.zero.map (·.cells.size))) = some (13, true, some 13) := by kernel_rfl
  cases hi : Try.prog.info? 58 with
  | none => simp [hi] at h
  | some i =>
    simp [hi] at h
    obtain ⟨h1, h2, z, h3, h4⟩ := h
    exact ⟨i, z, rfl, h3, h1, h2, h4⟩
end Go.Proofs.Yticdcdahehodkaa
/-! The document's Split, plainly: sizes have digits; what a round of the last loop does. No condition. -/
namespace Go.Proofs.Yticdcdahehodkaa
set_option linter.unusedVariables false
set_option linter.unusedSimpArgs false
open Go.RowKit

theorem dig_ex {v : Int} (h0 : 0 ≤ v) (h1 : v < P16 12) : ∃ D, IsD D ∧ lv D 12 = v := by
  refine ⟨oD v 12, oD_D v 12, ?_⟩
  have h := oD_low v 12 (by omega)
  have b := lv_bd (oD_D v 12) 12 (by omega)
  have hk : nk v 12 = 0 := by
    have hp := P16_pos 12
    rcases (show nk v 12 < 0 ∨ nk v 12 = 0 ∨ 0 < nk v 12 by omega) with g | g | g
    · have : nk v 12 * P16 12 ≤ (-1) * P16 12 := Int.mul_le_mul_of_nonneg_right (by omega) (by omega)
      omega
    · exact g
    · have : 1 * P16 12 ≤ nk v 12 * P16 12 := Int.mul_le_mul_of_nonneg_right (by omega) (by omega)
      omega
  rw [hk, Int.zero_mul, Int.add_zero] at h
  exact h
theorem DV_ok {v : Int} (h0 : 0 ≤ v) (h1 : v < P16 12) : IsD (DV v) ∧ lv (DV v) 12 = v := by
  obtain ⟨D, hD, hv⟩ := dig_ex h0 h1
  exact dv_of hD hv
theorem oV_DV {v : Int} (h : F64 v) (h0 : 0 ≤ v) : nm (oS v) (oV v) = nm false (DV v) := by
  rw [oS_pos h0, dv_eq (oV_D v) (oV_lv h h0)]
/-- floors and rests as the walk has them -/
theorem flo_int {Z : Nat → Int} {n k : Nat} {T : Int} (hT : 0 ≤ T) (hP : ∀ i, i < n → 0 ≤ Z i) (hk : k < n) : ((flo (wts Z) n T.toNat k : Nat) : Int) = T * Z k / sumZ Z n ∧ ((res (wts Z) n T.toNat k : Nat) : Int) = T * Z k % sumZ Z n := by
  have hsn := wts_sum n hP
  have hw : ((wts Z k : Nat) : Int) = Z k := by have := hP k hk; unfold wts; omega
  have hT2 : ((T.toNat : Nat) : Int) = T := by omega
  unfold flo res
  rw [Int.natCast_ediv, Int.natCast_emod, Int.natCast_mul, hw, hT2, ← hsn]
  exact ⟨rfl, rfl⟩
/-- a round of the last loop -/
structure Stp (W : Nat → Nat) (n T : Nat) (tk : Nat → Bool) (x r : Nat) : Prop where
  no : tk x = false
  clo : Clo (rkey W n T) n (fun i => decide (i = x) || tk i)
  cnt : cnt (fun i => decide (i = x) || tk i) n = r + 1
  le : flo W n T x + 1 ≤ T
theorem stp_of {W : Nat → Nat} {n T x r : Nat} {tk : Nat → Bool} (hS : 0 < sumN W n) (h : Clo (rkey W n T) n tk) (hr : cnt tk n = r) (hc : r < lef W n T) (hx : x < n)
    (hmax : ∀ y, y < n → rst W n T tk y ≤ rst W n T tk x ∧ (y < x → rst W n T tk y < rst W n T tk x)) : Stp W n T tk x r := by
  obtain ⟨h1, h2, h3⟩ := rst_next hS h (by omega) hx hmax
  rw [hr] at h3
  refine ⟨h1, h2, h3, ?_⟩
  have h4 := (rk_closed h2 h3 x hx).2 (by simp)
  have h5 := prt_le (T := T) hS hx
  unfold prt at h5
  rw [decide_eq_true (show rk (rkey W n T) n x < lef W n T by omega)] at h5
  exact h5
/-- the greatest of the first k rests stands at x -/
def Grt (W : Nat → Nat) (n T : Nat) (tk : Nat → Bool) (x k : Nat) : Prop := ∀ y, y < k → rst W n T tk y ≤ rst W n T tk x ∧ (y < x → rst W n T tk y < rst W n T tk x)
theorem grt_one {W : Nat → Nat} {n T : Nat} {tk : Nat → Bool} : Grt W n T tk 0 1 := fun y hy => by
  obtain rfl : y = 0 := by omega
  exact ⟨Nat.le_refl _, fun h => by omega⟩
theorem grt_keep {W : Nat → Nat} {n T x k : Nat} {tk : Nat → Bool} (h : Grt W n T tk x k) (hx : x < k) (hn : ¬ rst W n T tk x < rst W n T tk k) : Grt W n T tk x (k + 1) := fun y hy => by
  by_cases e : y = k
  · subst e; exact ⟨by omega, fun hl => by omega⟩
  · exact h y (by omega)
theorem grt_new {W : Nat → Nat} {n T x k : Nat} {tk : Nat → Bool} (h : Grt W n T tk x k) (hx : x < k) (hn : rst W n T tk x < rst W n T tk k) : Grt W n T tk k (k + 1) := fun y hy => by
  by_cases e : y = k
  · subst e; exact ⟨Nat.le_refl _, fun hl => by omega⟩
  · have := h y (by omega)
    exact ⟨by omega, fun _ => by omega⟩
/-- the two rows of the last loop: the parts so far, the rests so far -/
structure Sp3 (w wr : World) (gp gr n cap : Nat) (F R : Nat → Nat) : Prop where
  below : Below w.heap.size w wr
  lp : w.heap.size ≤ gp
  lr : w.heap.size ≤ gr
  lc : n ≤ cap ∧ cap ≤ maxLen
  p : ∃ P, wr.heap[gp]? = some (.cells P 2 (0, 0)) ∧ P.size = cap ∧ ∀ j, j < n → P[j]? = some (.int .i64 (F j : Nat))
  r : ∃ A, wr.heap[gr]? = some (.cells A 58 (0, 0)) ∧ n * 13 ≤ A.size ∧ ∀ j, j < n → A.extract (j * 13) (j * 13 + 13) = nm false (DV (R j : Nat))
theorem Sp3.ne {w wr : World} {gp gr n cap : Nat} {F R : Nat → Nat} (h : Sp3 w wr gp gr n cap F R) : gp ≠ gr := fun e => by
  obtain ⟨P, h1, _⟩ := h.p
  obtain ⟨A, h2, _⟩ := h.r
  rw [← e, h1] at h2
  injection h2 with h2
  injection h2 with _ h3
  exact absurd h3 (by decide)
theorem Sp3.after {w wr w' : World} {gp gr n cap : Nat} {F R : Nat → Nat} (h : Sp3 w wr gp gr n cap F R) (hb : Below wr.heap.size wr w') : Sp3 w w' gp gr n cap F R := by
  obtain ⟨P, h1, h2⟩ := h.p
  obtain ⟨A, h3, h4⟩ := h.r
  exact ⟨below_then h.below hb, h.lp, h.lr, h.lc, ⟨P, Yticdcdahehodkaa.kept hb h1, h2⟩, ⟨A, Yticdcdahehodkaa.kept hb h3, h4⟩⟩
theorem own_zl {w : World} {base n : Nat} {v : Value} {Z : Nat → Int} (hn : 0 < n) (h : w.ownsRow base 2 1 v n (zl Z n)) :
    ∃ g cap cur, v = .slice (some ⟨g, 0, none⟩) n cap ∧ base ≤ g ∧ w.heap[g]? = some (.cells cur 2 (0, 0)) ∧ n ≤ cap ∧ cap ≤ maxLen ∧ cur.size = cap ∧ ∀ j, j < n → cur[j]? = some (.int .i64 (Z j)) := by
  obtain ⟨_, ⟨_, h0⟩ | ⟨g, cap, cur, hv, hb, hg, hnc, hm, hc, ht⟩⟩ := h
  · omega
  · refine ⟨g, cap, cur, hv, hb, hg, hnc, hm, by omega, fun j hj => ?_⟩
    rw [← zl_at Z hj, ← ht, List.getElem?_take, if_pos (by omega), Array.getElem?_toList]
theorem own_flat {w : World} {base n c : Nat} {e : TypeId} {v : Value} {L : Nat → Array Value} (hL : ∀ i, (L i).size = c) (hn : 0 < n) (h : w.ownsRow base e c v n (flat L n)) :
    ∃ g cap cur, v = .slice (some ⟨g, 0, none⟩) n cap ∧ base ≤ g ∧ w.heap[g]? = some (.cells cur e (0, 0)) ∧ n ≤ cap ∧ n * c ≤ cur.size ∧ ∀ j, j < n → cur.extract (j * c) (j * c + c) = L j := by
  obtain ⟨_, ⟨_, h0⟩ | ⟨g, cap, cur, hv, hb, hg, hnc, hm, hc, ht⟩⟩ := h
  · omega
  · have hsz : n * c ≤ cur.size := by rw [hc]; exact Nat.mul_le_mul_right _ hnc
    refine ⟨g, cap, cur, hv, hb, hg, hnc, hsz, fun j hj => ?_⟩
    have hlt : (j + 1) * c ≤ n * c := Nat.mul_le_mul_right _ (by omega)
    rw [Nat.add_mul, Nat.one_mul] at hlt
    apply Array.ext_getElem?
    intro i
    rw [Array.getElem?_extract]
    by_cases hi : i < c
    · rw [if_pos (by omega), ← flatc_at hL n j i hj hi, ← ht, List.getElem?_take, if_pos (by omega), Array.getElem?_toList]
    · rw [if_neg (by omega), Array.getElem?_eq_none_iff.2 (by rw [hL]; omega)]
/-- the rows that the second loop has made -/
theorem Sp3.start {w wr : World} {n : Nat} {vp vr : Value} {F R : Nat → Nat} (hn : 0 < n) (hb : Below w.heap.size w wr) (hp : wr.ownsRow w.heap.size 2 1 vp n (zl (fun i => (F i : Nat)) n)) (hR : ∀ i, (nm false (DV (R i : Nat))).size = 13)
    (hr : wr.ownsRow w.heap.size 58 13 vr n (flat (fun i => nm false (DV (R i : Nat))) n)) :
    ∃ gp gr cap cap2, vp = .slice (some ⟨gp, 0, none⟩) n cap ∧ vr = .slice (some ⟨gr, 0, none⟩) n cap2 ∧ n ≤ cap2 ∧ Sp3 w wr gp gr n cap F R := by
  obtain ⟨gp, cap, P, h1, h2, h3, h4, h5, h6, h7⟩ := own_zl hn hp
  obtain ⟨gr, cap2, A, g1, g2, g3, g4, g5, g6⟩ := own_flat hR hn hr
  exact ⟨gp, gr, cap, cap2, h1, g1, g4, hb, h2, g2, ⟨h4, h5⟩, ⟨P, h3, h6, h7⟩, ⟨A, g3, g5, g6⟩⟩
theorem Sp3.inc {w wr : World} {gp gr n cap x : Nat} {F R : Nat → Nat} {v : Value} (h : Sp3 w wr gp gr n cap F R) (hx : x < n) (hv : v = .int .i64 (F x + 1 : Nat)) : Sp3 w (wr.setCell ⟨gp, x, none⟩ v) gp gr n cap (fun i => if i = x then F x + 1 else F i) R := by
  obtain ⟨P, h1, h2, h3⟩ := h.p
  obtain ⟨A, h4, h5⟩ := h.r
  have hc := h.lc
  refine ⟨below_set h.below h.lp, h.lp, h.lr, h.lc, ⟨_, heap_set h1, by simpa using h2, fun j hj => ?_⟩, ⟨A, heap_set_other h4 h.ne.symm, h5⟩⟩
  by_cases e : j = x
  · subst e
    rw [Array.getElem?_setIfInBounds_self_of_lt (by omega), hv, if_pos rfl]
  · rw [Array.getElem?_setIfInBounds_ne (by omega), if_neg e]
    exact h3 j hj
theorem Sp3.zero {w wr w1 : World} {gp gr n cap x : Nat} {F R : Nat → Nat} {A : Array Value} (h : Sp3 w wr gp gr n cap F R) (hx : x < n) (hA : wr.heap[gr]? = some (.cells A 58 (0, 0)))
    (hc : w1.heap[gr]? = some (.cells (splice A (x * 13) (nm false (DV 0))) 58 (0, 0))) (hs : (nm false (DV 0)).size = 13) (ho : ∀ k, k ≠ gr → w1.heap[k]? = wr.heap[k]?) (hb : ∀ B, B ≤ gr → Below B wr w1) : Sp3 w w1 gp gr n cap F (fun i => if i = x then 0 else R i) := by
  obtain ⟨P, h1, h2⟩ := h.p
  obtain ⟨A2, h4, h5, h6⟩ := h.r
  rw [hA] at h4
  injection h4 with h4
  injection h4 with h4
  subst h4
  have hlt : (x + 1) * 13 ≤ n * 13 := Nat.mul_le_mul_right _ (by omega)
  refine ⟨h.below.trans (hb _ h.lr), h.lp, h.lr, h.lc, ⟨P, (ho _ h.ne).trans h1, h2⟩, ⟨_, hc, by rw [splice_size (by omega)]; exact h5, fun j hj => ?_⟩⟩
  have hj2 : (j + 1) * 13 ≤ n * 13 := Nat.mul_le_mul_right _ (by omega)
  apply Array.ext_getElem?
  intro i
  rw [Array.getElem?_extract, splice_size (by omega)]
  by_cases e : j = x
  · subst e
    rw [if_pos rfl]
    by_cases hi : i < 13
    · rw [if_pos (by omega), splice_get (by omega), if_pos (by omega), show j * 13 + i - j * 13 = i by omega]; rfl
    · rw [if_neg (by omega), Array.getElem?_eq_none_iff.2 (by show (nm false (DV 0)).size ≤ i; omega)]
  · rw [if_neg e, ← h6 j hj, Array.getElem?_extract]
    by_cases hi : i < 13
    · rw [if_pos (by omega), if_pos (by omega), splice_get (by omega), if_neg (by omega)]
    · rw [if_neg (by omega), if_neg (by omega)]
theorem Sp3.congr {w wr : World} {gp gr n cap : Nat} {F R F' R' : Nat → Nat} (h : Sp3 w wr gp gr n cap F R) (e1 : ∀ i, i < n → F i = F' i) (e2 : ∀ i, i < n → R i = R' i) : Sp3 w wr gp gr n cap F' R' := by
  obtain ⟨P, h1, h2, h3⟩ := h.p
  obtain ⟨A, h4, h5, h6⟩ := h.r
  exact ⟨h.below, h.lp, h.lr, h.lc, ⟨P, h1, h2, fun j hj => by rw [← e1 j hj]; exact h3 j hj⟩, ⟨A, h4, h5, fun j hj => by rw [← e2 j hj]; exact h6 j hj⟩⟩
/-- the two rows of the second loop -/
structure Lp2 (w wr : World) (vp vr : Value) (k j : Nat) (F : Nat → Int) (L : Nat → Array Value) : Prop where
  be : Below w.heap.size w wr
  p : wr.ownsRow w.heap.size 2 1 vp k (zl F k)
  r : wr.ownsRow w.heap.size 58 13 vr j (flat L j)
theorem Lp2.after {w wr w' : World} {vp vr : Value} {k j : Nat} {F : Nat → Int} {L : Nat → Array Value} (h : Lp2 w wr vp vr k j F L) (hb : Below wr.heap.size wr w') : Lp2 w w' vp vr k j F L :=
  ⟨below_then h.be hb, own_below hb h.p, own_below hb h.r⟩
theorem own_diff {w : World} {b1 b2 s1 s2 n1 n2 : Nat} {e1 e2 : TypeId} {v1 v2 : Value} {x1 x2 : List Value} (h1 : w.ownsRow b1 e1 s1 v1 n1 x1) (h2 : w.ownsRow b2 e2 s2 v2 n2 x2) (hne : e1 ≠ e2) : v1.ownBlock = none ∨ v1.ownBlock ≠ v2.ownBlock := by
  cases hv : v1.ownBlock with
  | none => exact .inl rfl
  | some g =>
    right
    intro e
    obtain ⟨A, f, ha⟩ := own_tag h1 g hv
    obtain ⟨B, f2, hb⟩ := own_tag h2 g e.symm
    rw [ha] at hb
    injection hb with hb
    injection hb with _ hb
    exact hne hb
theorem Lp2.app1 {w wr w' : World} {vp vr v : Value} {k j : Nat} {F : Nat → Int} {L : Nat → Array Value} {X : Obj} (h : Lp2 w wr vp vr k j F L) (ho : w'.ownsRow w.heap.size 2 1 v (k + 1) (zl F k ++ zl (fun _ => F k) 1)) (hg : (wr.alloc X).grownBy w' vp.ownBlock) :
    Lp2 w w' v vr (k + 1) j F L ∧ ∀ (g : Nat) (A : Array Value), wr.heap[g]? = some (.cells A 58 (0, 0)) → w'.heap[g]? = some (.cells A 58 (0, 0)) := by
  have hz := h.be.size
  refine ⟨⟨(below_alloc h.be X).grown hg (by simp; omega) (fun q hq => (h.p.lt q hq).1), by rw [← zl_snoc]; exact ho, (h.r.alloc X).kept hg (own_diff h.r h.p (by decide))⟩, fun g A hA => ?_⟩
  have hlt := (Array.getElem?_eq_some_iff.1 hA).1
  rw [hg.block g (by simp; omega) (fun e => ?_)]
  · exact heap_up hA
  · obtain ⟨B, f, hb⟩ := own_tag h.p g e.symm
    rw [hA] at hb
    injection hb with hb
    injection hb with _ hb
    exact absurd hb (by decide)
theorem Lp2.app2 {w wr w' : World} {vp vr v : Value} {k j : Nat} {F : Nat → Int} {L : Nat → Array Value} {X : Obj} (h : Lp2 w wr vp vr k j F L) (ho : w'.ownsRow w.heap.size 58 13 v (j + 1) (flat L j ++ (L j).toList)) (hg : (wr.alloc X).grownBy w' vr.ownBlock) :
    Lp2 w w' vp v k (j + 1) F L := by
  have hz := h.be.size
  exact ⟨(below_alloc h.be X).grown hg (by simp; omega) (fun q hq => (h.r.lt q hq).1), (h.p.alloc X).kept hg (own_diff h.p h.r (by decide)), ho⟩
/-- the row of the parts at the end -/
theorem Sp3.fin {w wr : World} {gp gr n cap : Nat} {F R G : Nat → Nat} (h : Sp3 w wr gp gr n cap F R) (e : ∀ i, i < n → F i = G i) : wr.ownsRow w.heap.size 2 1 (.slice (some ⟨gp, 0, none⟩) n cap) n (zl (fun i => (G i : Nat)) n) := by
  obtain ⟨P, h1, h2, h3⟩ := h.p
  refine ⟨by rw [zl_len]; omega, .inr ⟨gp, cap, P, rfl, h.lp, h1, h.lc.1, h.lc.2, by omega, ?_⟩⟩
  apply List.ext_getElem?
  intro i
  rw [List.getElem?_take]
  by_cases hi : i < n
  · rw [if_pos (by omega), Array.getElem?_toList, h3 i hi, zl_at _ hi, e i hi]
  · rw [if_neg (by omega), List.getElem?_eq_none_iff.2 (by rw [zl_len]; omega)]
end Go.Proofs.Yticdcdahehodkaa
/-! A region that draws its order: calls that leave old memory as it is, and loads, may be taken first, where every later world does. No condition. -/
namespace Go.Proofs.Yticdcdahehodkaa
set_option linter.unusedVariables false
set_option linter.unusedSimpArgs false
open Go.RowKit

section
variable {P : Program} {ops : Array Oper} {Q : Exit → Act → World → Prop} {md : Region.Mode} {S : World → Prop}

/-- from every world that meets S the operation leaves v in its slot, old memory as it is, and S -/
def Gives (P : Program) (ops : Array Oper) (S : World → Prop) (o : Oper) (v : Value) (a : Act) : Prop :=
  (Region.wanted o (yielded ops a.tmps) = true ∧ ∀ w, S w → (execOp a.eval o).run P w = .ok (.value v) w ∨ ∃ f args, (execOp a.eval o).run P w = .ok (.enter f args) w ∧ Calls P f args w fun e w' => e = .returned v ∧ Below w.heap.size w w' ∧ S w') ∨
  (Region.wanted o (yielded ops a.tmps) = false ∧ v = undef)
theorem Gives.same {o : Oper} {v : Value} {a a' : Act} (h : Gives P ops S o v a) (he : execOp a'.eval o = execOp a.eval o) (hw : Region.wanted o (yielded ops a'.tmps) = Region.wanted o (yielded ops a.tmps)) : Gives P ops S o v a' := by
  unfold Gives at *
  rw [he, hw]
  exact h
theorem Gives.step {i : Nat} {o : Oper} {v : Value} {a : Act} (hi : ops[i]? = some o) (h : Gives P ops S o v a) {K : Act → World → Prop} {w : World} (hS : S w) (hK : ∀ w', Below w.heap.size w w' → S w' → K (a.put o.dst v) w') : wpOp P ops Q i K a w := by
  unfold wpOp
  rw [hi]
  rcases h with ⟨hw, hv⟩ | ⟨hw, rfl⟩
  · simp only [hw, if_true]
    refine .inl ?_
    rcases hv w hS with hr | ⟨f, args, hr, hc⟩
    · unfold Oper.wp; rw [hr]; exact hK w (Below.refl _ _) hS
    · unfold Oper.wp; rw [hr]
      exact hc.mono fun e w' ⟨he, hb, hs⟩ => by subst he; exact hK w' hb hs
  · simp only [hw, Bool.false_eq_true, if_false]
    exact hK w (Below.refl _ _) hS
/-- two operations that have nothing to do with one another -/
theorem wpOp_past {j : Nat} {oi oj : Oper} {v : Value} (hj : ops[j]? = some oj) (hap : oi.apart ops oj = true) (hi : ∀ cs b, oi.op ≠ .select cs b) (hs : ∀ cs b, oj.op ≠ .select cs b) (hQ : ∀ c a w, Q (.panic c) (a.put oi.dst v) w → Q (.panic c) a w)
    {K : Act → World → Prop} {a : Act} {w : World} (hy : Gives P ops S oi v a) (h : wpOp P ops Q j K (a.put oi.dst v) w) : wpOp P ops Q j (fun a' w' => Gives P ops S oi v a' ∧ K (a'.put oi.dst v) w') a w := by
  obtain ⟨p1, p2, p3⟩ := Oper.apart_spec hap
  have stay : ∀ u, Gives P ops S oi v (a.put oj.dst u) := fun u => hy.same (execOp_put oi hi a oj.dst u p3) (wanted_put oi a oj.dst u p3)
  have fin : ∀ u w', K ((a.put oi.dst v).put oj.dst u) w' → Gives P ops S oi v (a.put oj.dst u) ∧ K ((a.put oj.dst u).put oi.dst v) w' := fun u w' hk => ⟨stay u, by rw [← Act.put_comm a v u p2]; exact hk⟩
  have hex := execOp_put oj hs a oi.dst v p1
  unfold wpOp at *
  rw [hj] at *
  simp only [wanted_put oj a oi.dst v p1] at h ⊢
  by_cases hw : Region.wanted oj (yielded ops a.tmps) = true
  · rw [if_pos hw] at h ⊢
    rcases h with h | ⟨h1, h2⟩
    · left
      unfold Oper.wp at *
      rw [hex] at h
      cases hr : (execOp a.eval oj).run P w with
      | ok n w' =>
        rw [hr] at h
        cases n with
        | value u => exact fin u w' h
        | skip => exact fin undef w' h
        | defer d =>
          have hd : Gives P ops S oi v (({ a with defers := d :: a.defers } : Act).put oj.dst undef) := (show Gives P ops S oi v { a with defers := d :: a.defers } from hy.same rfl rfl).same (execOp_put oi hi _ oj.dst undef p3) (wanted_put oi _ oj.dst undef p3)
          simp only [Oper.upon] at h ⊢
          refine ⟨hd, ?_⟩
          rw [← Act.put_comm _ v undef p2, ← Act.put_defers]
          exact h
        | enter f args =>
          refine Calls.mono h fun e w2 he => ?_
          cases e with
          | returned u => exact fin u w2 he
          | panicked c => exact hQ _ _ _ he
          | outgrown => exact he
        | row r args => exact Rows.mono h fun u w2 he => fin u w2 he
        | _ => exact h
      | halt x w' =>
        rw [hr] at h
        cases x with
        | panic u => exact hQ _ _ _ h
        | _ => exact h
    · right
      unfold Oper.asks at *
      rw [hex] at h1
      exact ⟨h1, h2⟩
  · rw [if_neg hw] at h ⊢
    exact fin undef w h

/-- whatever order is picked, from every later world -/
def wpAnyR (P : Program) (md : Region.Mode) (ops : Array Oper) (Q : Exit → Act → World → Prop) (S : World → Prop) : Nat → Array Bool → Act → World → Prop
  | 0, listed, a, w => ∀ w1, Below w.heap.size w w1 → S w1 → Region.ready md ops listed = [] ∧ Q .normal a w1
  | fuel + 1, listed, a, w => ∀ w1, Below w.heap.size w w1 → S w1 → (Region.ready md ops listed = [] → Q .normal a w1) ∧
    ∀ i ∈ Region.ready md ops listed, wpOp P ops Q i (fun a' w' => S w' ∧ wpAnyR P md ops Q S fuel (listed.setIfInBounds i true) a' w') a w1
theorem wpAnyR.later : ∀ {fuel : Nat} {listed : Array Bool} {a : Act} {w w' : World}, wpAnyR P md ops Q S fuel listed a w → Below w.heap.size w w' → wpAnyR P md ops Q S fuel listed a w'
  | 0, _, _, _, _, h, hb => fun w1 h1 hS => h w1 (below_then hb h1) hS
  | _ + 1, _, _, _, _, h, hb => fun w1 h1 hS => h w1 (below_then hb h1) hS
theorem any_of_R : ∀ (fuel : Nat) (listed : Array Bool) (a : Act) (w : World), S w → wpAnyR P md ops Q S fuel listed a w → wpAny P md ops Q fuel listed a w
  | 0, _, _, w, hS, h => h w (Below.refl _ _) hS
  | fuel + 1, _, _, w, hS, h => ⟨(h w (Below.refl _ _) hS).1, fun i hi => wpOp_mono (fun a' w' h' => any_of_R fuel _ a' w' h'.1 h'.2) ((h w (Below.refl _ _) hS).2 i hi)⟩
theorem wpAnyR_first {i : Nat} {oi : Oper} {v : Value} (hi : ops[i]? = some oi) (hsel : ∀ (j : Nat) (o : Oper) cs b, ops[j]? = some o → o.op ≠ .select cs b) (hQ : ∀ c a w, Q (.panic c) (a.put oi.dst v) w → Q (.panic c) a w) :
    ∀ (fuel : Nat) (listed : Array Bool) (a : Act) (w : World), (∀ j oj, ops[j]? = some oj → j ≠ i → listed.getD j true = false → (∀ e ∈ oj.after, Region.binds md e = true → e.on ≠ i) → oi.apart ops oj = true) →
      i ∈ Region.ready md ops listed → Gives P ops S oi v a → wpAnyR P md ops Q S fuel (listed.setIfInBounds i true) (a.put oi.dst v) w → wpAnyR P md ops Q S (fuel + 1) listed a w := by
  intro fuel
  induction fuel with
  | zero =>
    intro listed a w _ hr hy H w1 hb hS
    refine ⟨fun h => (by rw [h] at hr; cases hr), fun j hj => ?_⟩
    by_cases e : j = i
    · subst e; exact hy.step hi hS (fun w' hb' hS' => ⟨hS', H.later (below_then hb hb')⟩)
    · have h1 := ready_mono hj e
      rw [(H w1 hb hS).1] at h1
      cases h1
  | succ fuel ih =>
    intro listed a w hfree hr hy H w1 hb hS
    refine ⟨fun h => (by rw [h] at hr; cases hr), fun j hj => ?_⟩
    by_cases e : j = i
    · subst e; exact hy.step hi hS (fun w' hb' hS' => ⟨hS', H.later (below_then hb hb')⟩)
    · have h1 := (H w1 hb hS).2 j (ready_mono hj e)
      obtain ⟨hun, oj, hoj, hall⟩ := mem_ready.1 hj
      have hno : ∀ x ∈ oj.after, Region.binds md x = true → x.on ≠ i := fun x hx hbx heq => by
        have g1 := hall x hx hbx
        have g0 := (mem_ready.1 hr).1
        rw [heq] at g1
        rcases Nat.lt_or_ge i listed.size with h' | h'
        · simp [h'] at g0 g1; rw [g0] at g1; cases g1
        · simp [Array.getElem?_eq_none h'] at g1
      have h2 := wpOp_past hoj (hfree j oj hoj e hun hno) (fun cs b => hsel i oi cs b hi) (fun cs b => hsel j oj cs b hoj) hQ hy h1
      refine wpOp_mono (fun a' w' h3 => ⟨h3.2.1, ih (listed.setIfInBounds j true) a' w' (fun k ok hk hki hkun hkno => ?_) (ready_mono hr (Ne.symm e)) h3.1 ?_⟩) h2
      · refine hfree k ok hk hki ?_ hkno
        by_cases hjk : j = k
        · subst hjk; exact hun
        · rw [getD_set_ne true hjk] at hkun; exact hkun
      · rw [Array.setIfInBounds_comm _ _ e]; exact h3.2.2
/-- take number i first -/
theorem wpAnyR_take {i : Nat} {oi : Oper} {v : Value} {fuel : Nat} {listed : Array Bool} {a : Act} {w : World} (hi : ops[i]? = some oi) (hs : Region.noSelect ops = true) (hf : Region.free md ops listed i = true) (hr : (Region.ready md ops listed).contains i = true)
    (hQ : ∀ c a w, Q (.panic c) (a.put oi.dst v) w → Q (.panic c) a w) (hy : Gives P ops S oi v a) (h : wpAnyR P md ops Q S fuel (listed.setIfInBounds i true) (a.put oi.dst v) w) : wpAnyR P md ops Q S (fuel + 1) listed a w :=
  wpAnyR_first hi (Region.noSelect_spec hs) hQ fuel listed a w (Region.free_spec hi hf) (by simpa using hr) hy h
/-- what may come up next, each in turn -/
def AllR (P : Program) (md : Region.Mode) (ops : Array Oper) (Q : Exit → Act → World → Prop) (S : World → Prop) (fuel : Nat) (listed : Array Bool) (a : Act) (w : World) (rs : List Nat) : Prop :=
  ∀ i ∈ rs, wpOp P ops Q i (fun a' w' => S w' ∧ wpAnyR P md ops Q S fuel (listed.setIfInBounds i true) a' w') a w
theorem AllR.nil {fuel : Nat} {listed : Array Bool} {a : Act} {w : World} : AllR P md ops Q S fuel listed a w [] := fun _ h => by cases h
theorem AllR.cons {fuel : Nat} {listed : Array Bool} {a : Act} {w : World} {i : Nat} {o : Oper} {rs : List Nat} (ho : ops[i]? = some o)
    (h : ∀ K' : Act → World → Prop, Shut (∀ a w, S w → wpAnyR P md ops Q S fuel (listed.setIfInBounds i true) a w → K' a w) → if Region.wanted o (yielded ops a.tmps) = true then Oper.wp P o a w K' Q else K' (a.put o.dst undef) w)
    (hs : AllR P md ops Q S fuel listed a w rs) : AllR P md ops Q S fuel listed a w (i :: rs) := fun j hj => by
  rcases List.mem_cons.1 hj with rfl | hj
  · exact wpOp_step ho (fun K' hK => h K' (fun a w hS hW => hK a w ⟨hS, hW⟩))
  · exact hs j hj
theorem wpAnyR_ready {rs : List Nat} {fuel : Nat} {listed : Array Bool} {a : Act} {w : World} (hr : Region.ready md ops listed = rs) (hne : rs ≠ [])
    (h : ∀ w1, Below w.heap.size w w1 → S w1 → AllR P md ops Q S fuel listed a w1 rs) : wpAnyR P md ops Q S (fuel + 1) listed a w :=
  fun w1 hb hS => ⟨fun h0 => absurd (hr ▸ h0) hne, hr ▸ h w1 hb hS⟩
theorem wpAnyR_done {listed : Array Bool} {a : Act} {w : World} (hr : Region.ready md ops listed = []) (h : ∀ w1, Below w.heap.size w w1 → S w1 → Q .normal a w1) : ∀ fuel, wpAnyR P md ops Q S fuel listed a w
  | 0 => fun w1 hb hS => ⟨hr, h w1 hb hS⟩
  | _ + 1 => fun w1 hb hS => ⟨fun _ => h w1 hb hS, by rw [hr]; simp⟩
theorem wp_region_R {id : Nat} {a : Act} {w : World} (hm : P.follows .mixedOrders = true) (hS : S w.drew) (h : wpAnyR P .any ops Q S ops.size (Array.replicate ops.size false) a w.drew) : (Code.region id ops true).wp P Q a w :=
  wp_region_any hm (any_of_R _ _ _ _ hS h)
theorem op_alloc_named {o : Oper} {a : Act} {w : World} {K : Act → World → Prop} (T : TypeId) (ho : o.op = .alloc T) (Z : Array Value) (hz : ((P.info? T).bind (·.zero)).map Value.cells = some Z)
    (h : K (a.put o.dst (.pointer (some ⟨w.heap.size, 0, none⟩))) (w.alloc (.cells Z T))) : o.wp P a w K Q := by
  cases hq : P.info? T with
  | none => simp [hq] at hz
  | some i =>
    cases hq2 : i.zero with
    | none => simp [hq, hq2] at hz
    | some z =>
      simp [hq, hq2] at hz
      subst hz
      unfold Oper.wp execOp
      simp only [ho, Instr.alloc, zeroValue, typeInfo, newVar, newRow, Sem.run_bind, Sem.run_pure, run_program, Result.andThen_ok, run_newObj_alloc, hq, hq2]
      exact h
/-- a call by its contract -/
theorem give_call {o : Oper} {v : Value} {a : Act} (f : FuncId) (args : Array Value) (hw : Region.wanted o (yielded ops a.tmps) = true) (he : ∀ w, S w → (execOp a.eval o).run P w = .ok (.enter f args) w)
    (hc : ∀ w, S w → Calls P f args w fun e w' => e = .returned v ∧ Below w.heap.size w w') (hS : ∀ w w', S w → Below w.heap.size w w' → S w') : Gives P ops S o v a :=
  .inl ⟨hw, fun w h => .inr ⟨f, args, he w h, (hc w h).mono fun e w' ⟨h1, h2⟩ => ⟨h1, h2, hS w w' h h2⟩⟩⟩
theorem give_val {o : Oper} {v : Value} {a : Act} (hw : Region.wanted o (yielded ops a.tmps) = true) (he : ∀ w, S w → (execOp a.eval o).run P w = .ok (.value v) w) : Gives P ops S o v a :=
  .inl ⟨hw, fun w h => .inl (he w h)⟩
end
end Go.Proofs.Yticdcdahehodkaa
