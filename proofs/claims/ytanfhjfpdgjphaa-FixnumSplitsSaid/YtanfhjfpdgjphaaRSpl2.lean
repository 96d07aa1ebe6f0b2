/- The document's Split, plainly: its quotients and rests. No condition. -/
import Derived.Test.YtanfhjfpdgjphaaRSpl1
import Derived.Test.YtanfhjfpdgjphaaOver
namespace Go.Proofs.Ytanfhjfpdgjphaa
set_option linter.unusedVariables false
set_option linter.unusedSimpArgs false
open Go.RowKit

theorem oS_pos {x : Int} (h : 0 ≤ x) : oS x = false := by unfold oS; exact decide_eq_false (by omega)
theorem xs_sign {Z : Nat → Int} : ∀ k, (∀ i, i < k → 0 ≤ Z i) → (xs Z k).1 = false
  | 0, _ => oS_pos (Int.le_refl 0)
  | k + 1, h => by
    have e1 := xs_sign k (fun i hi => h i (by omega))
    have e2 := oS_pos (h k (by omega))
    show psS (xs Z k).1 (xs Z k).2 (oS (Z k)) (oV (Z k)) = false
    rw [e1, e2]; unfold psS; rw [if_pos rfl]
theorem oV_lv {x : Int} (hx : F64 x) (h : 0 ≤ x) : lv (oV x) 12 = x := by
  have := (o_val hx).1
  rw [oS_pos h] at this
  exact this
/-- the quotient and the rest of one part -/
theorem qr_val {Z : Nat → Int} {n i : Nat} {T u : Int} {D A Q R : Array Value} (hi : i < n) (hF : ∀ i, F64 (Z i)) (hP : ∀ i, i < n → 0 ≤ Z i) (hT : 0 < T) (hTF : F64 T)
    (hD : IsD D) (hDu : lv D 12 + u * P16 12 = lv (oV T) 12 * lv (oV (Z i)) 12) (hA : lv A 12 = sumZ Z n) (hS : 0 < sumZ Z n) (ho : Ov D A Q R 0) :
    lv Q 12 = (flo (wts Z) n T.toNat i : Nat) ∧ lv R 12 = (res (wts Z) n T.toNat i : Nat) := by
  have e1 := oV_lv hTF (by omega)
  have e2 := oV_lv (hF i) (hP i hi)
  rw [e1, e2] at hDu
  have hz := hF i
  have hzp := hP i hi
  unfold F64 at hz hTF
  have b := lv_bd hD 12 (by omega)
  have hm : T * Z i ≤ 9223372036854775807 * 9223372036854775807 := Int.mul_le_mul hTF.2 hz.2 hzp (by omega)
  have hm0 : 0 ≤ T * Z i := Int.mul_nonneg (by omega) hzp
  have hp := P16_12
  have hu : u = 0 := by
    rcases (show u < 0 ∨ u = 0 ∨ 0 < u by omega) with h | h | h
    · have : u * P16 12 ≤ (-1) * P16 12 := Int.mul_le_mul_of_nonneg_right (by omega) (by omega)
      omega
    · exact h
    · have : 1 * P16 12 ≤ u * P16 12 := Int.mul_le_mul_of_nonneg_right (by omega) (by omega)
      omega
  subst hu
  rw [Int.zero_mul, Int.add_zero] at hDu
  have hv := ho.v
  have hup : up D 0 = lv D 12 := by unfold up; simp
  rw [hup, hDu, hA] at hv
  have hl := ho.l
  rw [hA] at hl
  have q0 := (lv_bd ho.q 12 (by omega)).1
  have r0 := (lv_bd ho.r 12 (by omega)).1
  have hsn := wts_sum n hP
  have hw : ((wts Z i : Nat) : Int) = Z i := by unfold wts; omega
  have hT2 : ((T.toNat : Nat) : Int) = T := by omega
  have hdiv : lv Q 12 = (T * Z i) / sumZ Z n ∧ lv R 12 = (T * Z i) % sumZ Z n := by
    rw [← hv]
    constructor
    · rw [Int.add_comm, Int.add_mul_ediv_right _ _ (by omega), Int.ediv_eq_zero_of_lt r0 hl]; omega
    · rw [Int.add_comm, Int.add_mul_emod_self_right, Int.emod_eq_of_lt r0 hl]
  unfold flo res
  rw [Int.natCast_ediv, Int.natCast_emod, Int.natCast_mul, hw, hT2, ← hsn]
  exact hdiv
/-- the rests that are left: those who had one more have none -/
def rst (W : Nat → Nat) (n T : Nat) (tk : Nat → Bool) (i : Nat) : Nat := if tk i = true then 0 else res W n T i
theorem rst_put {W : Nat → Nat} {n T x : Nat} {tk : Nat → Bool} (i : Nat) : rst W n T (fun i => decide (i = x) || tk i) i = if i = x then 0 else rst W n T tk i := by
  unfold rst
  by_cases e : i = x
  · simp [e]
  · simp [e]
/-- while something is left, somebody who has none yet has a rest -/
theorem rst_some {W : Nat → Nat} {n T : Nat} {tk : Nat → Bool} (hS : 0 < sumN W n) (hc : cnt tk n < lef W n T) : ∃ y, y < n ∧ 0 < rst W n T tk y := by
  apply Classical.byContradiction
  intro hno
  have h1 := lef_pos (T := T) hS
  have h2 : cnt (fun i => decide (0 < res W n T i)) n ≤ cnt tk n := cnt_mono fun i hi hp => by
    rw [decide_eq_true_iff] at hp
    cases ht : tk i
    · exact absurd ⟨i, hi, by unfold rst; rw [ht]; simpa using hp⟩ hno
    · rfl
  omega
/-- the first greatest rest is the next one's -/
theorem rst_next {W : Nat → Nat} {n T x : Nat} {tk : Nat → Bool} (hS : 0 < sumN W n) (h : Clo (rkey W n T) n tk) (hc : cnt tk n < lef W n T) (hx : x < n)
    (hmax : ∀ y, y < n → rst W n T tk y ≤ rst W n T tk x ∧ (y < x → rst W n T tk y < rst W n T tk x)) :
    tk x = false ∧ Clo (rkey W n T) n (fun i => decide (i = x) || tk i) ∧ cnt (fun i => decide (i = x) || tk i) n = cnt tk n + 1 := by
  obtain ⟨y, hy, hp⟩ := rst_some hS hc
  have hxp : 0 < rst W n T tk x := by have := (hmax y hy).1; omega
  have hf : tk x = false := by
    cases ht : tk x
    · rfl
    · unfold rst at hxp; rw [ht] at hxp; simp at hxp
  refine ⟨hf, h.next hx hf fun z hz hzf => ?_⟩
  obtain ⟨m1, m2⟩ := hmax z hz
  unfold rst at m1 m2
  rw [hzf, hf] at m1 m2
  simp only [Bool.false_eq_true, if_false] at m1 m2
  unfold ltK rkey
  by_cases e : z = x
  · exact .inl e
  · right
    by_cases hl : z < x
    · have := m2 hl; omega
    · omega
/-- when nothing is left, the parts are the split's -/
theorem rst_done {W : Nat → Nat} {n T : Nat} {tk : Nat → Bool} (h : Clo (rkey W n T) n tk) (hc : cnt tk n = lef W n T) {i : Nat} (hi : i < n) : flo W n T i + b01 (tk i) = prt W n T i := by
  have := rk_closed h hc i hi
  unfold prt
  cases ht : tk i
  · rw [ht] at this
    rw [decide_eq_false (by rw [this]; simp)]
  · rw [ht] at this
    rw [decide_eq_true (this.2 rfl)]
/-- a size has its digits -/
theorem lv_dig {A B : Array Value} (hA : IsD A) (hB : IsD B) : ∀ k, k ≤ 12 → lv A k = lv B k → ∀ i, i < k → N A i = N B i
  | 0, _, _, i, hi => by omega
  | k + 1, hk, h, i, hi => by
    rw [lv, lv] at h
    have a := lv_bd hA k (by omega)
    have b := lv_bd hB k (by omega)
    have hp := P16_pos k
    have e : N A k = N B k := by
      rcases (show N A k < N B k ∨ N A k = N B k ∨ N B k < N A k by omega) with g | g | g
      · have : (N A k + 1) * P16 k ≤ N B k * P16 k := Int.mul_le_mul_of_nonneg_right (by omega) (by omega)
        rw [Int.add_mul, Int.one_mul] at this
        omega
      · exact g
      · have : (N B k + 1) * P16 k ≤ N A k * P16 k := Int.mul_le_mul_of_nonneg_right (by omega) (by omega)
        rw [Int.add_mul, Int.one_mul] at this
        omega
    by_cases ei : i = k
    · subst ei; exact e
    · rw [e] at h
      exact lv_dig hA hB k (by omega) (by omega) i (by omega)
theorem lv_inj {A B : Array Value} (hA : IsD A) (hB : IsD B) (h : lv A 12 = lv B 12) : A = B := by
  apply Array.ext_getElem?
  intro i
  by_cases hi : i < 12
  · rw [(hA.c i hi).1, (hB.c i hi).1, lv_dig hA hB 12 (by omega) h i hi]
  · rw [Array.getElem?_eq_none_iff.2 (by rw [hA.size]; omega), Array.getElem?_eq_none_iff.2 (by rw [hB.size]; omega)]
open Classical in
/-- the digits of a size -/
noncomputable def DV (v : Int) : Array Value := if h : ∃ D, IsD D ∧ lv D 12 = v then Classical.choose h else z12
theorem dv_eq {D : Array Value} {v : Int} (h : IsD D) (hv : lv D 12 = v) : D = DV v := by
  have hx : ∃ D, IsD D ∧ lv D 12 = v := ⟨D, h, hv⟩
  unfold DV
  rw [dif_pos hx]
  obtain ⟨h1, h2⟩ := Classical.choose_spec hx
  exact lv_inj h h1 (by rw [hv, h2])
theorem prod_small {T z u : Int} {D : Array Value} (hT : F64 T) (h0 : 0 ≤ T) (hz : F64 z) (hzp : 0 ≤ z) (hD : IsD D) (hDu : lv D 12 + u * P16 12 = lv (oV T) 12 * lv (oV z) 12) : lv D 12 = T * z := by
  rw [oV_lv hT h0, oV_lv hz hzp] at hDu
  unfold F64 at hz hT
  have b := lv_bd hD 12 (by omega)
  have hm : T * z ≤ 9223372036854775807 * 9223372036854775807 := Int.mul_le_mul hT.2 hz.2 hzp (by omega)
  have hm0 : 0 ≤ T * z := Int.mul_nonneg (by omega) hzp
  have hp := P16_12
  have hu : u = 0 := by
    rcases (show u < 0 ∨ u = 0 ∨ 0 < u by omega) with h | h | h
    · have : u * P16 12 ≤ (-1) * P16 12 := Int.mul_le_mul_of_nonneg_right (by omega) (by omega)
      omega
    · exact h
    · have : 1 * P16 12 ≤ u * P16 12 := Int.mul_le_mul_of_nonneg_right (by omega) (by omega)
      omega
  subst hu
  omega
/-- the product, its digits fixed: it serves in a region that draws -/
theorem rtimes_dv {T z : Int} (hT : F64 T) (h0 : 0 ≤ T) (hz : F64 z) (hzp : 0 ≤ z) (w : World) :
    Calls Try.prog 36 #[.agg (nm (oS T) (oV T)), .agg (nm (oS z) (oV z))] w fun e w' => e = .returned (.agg (nm false (DV (T * z)))) ∧ Below w.heap.size w w' :=
  (times_any (oS T) (oS z) (oV T) (oV z) w (oV_D T) (oV_D z)).mono fun e w' ⟨⟨D, u, he, hD, hv⟩, hb⟩ => ⟨by
    rw [he, oS_pos h0, oS_pos hzp, dv_eq hD (prod_small hT h0 hz hzp hD hv)]; rfl, hb⟩
theorem dv_of {D : Array Value} {v : Int} (h : IsD D) (hv : lv D 12 = v) : IsD (DV v) ∧ lv (DV v) 12 = v := by
  rw [← dv_eq h hv]; exact ⟨h, hv⟩
/-- the quotient and the rest, their digits fixed -/
theorem rover_dv {Z : Nat → Int} {n : Nat} {p : Int} {D : Array Value} (hF : ∀ i, F64 (Z i)) (hP : ∀ i, i < n → 0 ≤ Z i) (hn : n ≤ 1000) (hS : 0 < sumZ Z n) (hD : IsD D) (hp : lv D 12 = p) (w : World) :
    Calls Try.prog 37 #[.agg (nm false (DV p)), .agg (xn Z n)] w fun e w' => e = .returned (.tuple #[.agg (nm false (DV (p / sumZ Z n))), .agg (nm false (DV (p % sumZ Z n)))]) ∧ Below w.heap.size w w' := by
  obtain ⟨h1, h2, h3⟩ := xs_all hF n (by omega)
  have hs := xs_sign n hP
  obtain ⟨d1, d2⟩ := dv_of hD hp
  rw [hs] at h2
  have hl : lv (xs Z n).2 12 = sumZ Z n := h2
  have hpp := P16_12
  have c := over_any false (xs Z n).1 (DV p) (xs Z n).2 w d1 h1 (by omega) (by omega)
  refine c.mono fun e w' ⟨ho, hb⟩ => ⟨?_, hb⟩
  obtain ⟨S, C, Q, R, he, hC, hov, hsc⟩ := ho
  rw [hs] at hsc
  have hsc2 : (S, C) = (false, Q) := by simpa using hsc
  obtain ⟨rfl, rfl⟩ : S = false ∧ C = Q := by injection hsc2 with a b; exact ⟨a, b⟩
  have hv := hov.v
  have hup : up (DV p) 0 = lv (DV p) 12 := by unfold up; simp
  rw [hup, d2, hl] at hv
  have hlt := hov.l
  rw [hl] at hlt
  have r0 := (lv_bd hov.r 12 (by omega)).1
  have q1 : lv C 12 = p / sumZ Z n := by
    rw [← hv, Int.add_comm, Int.add_mul_ediv_right _ _ (by omega), Int.ediv_eq_zero_of_lt r0 hlt]; omega
  have q2 : lv R 12 = p % sumZ Z n := by
    rw [← hv, Int.add_comm, Int.add_mul_emod_self_right, Int.emod_eq_of_lt r0 hlt]
  rw [he, dv_eq hov.q q1, dv_eq hov.r q2]
/-- the digits as a number again -/
theorem rint_dv {v : Int} {D : Array Value} (hD : IsD D) (hv : lv D 12 = v) (h0 : 0 ≤ v) (h1 : v ≤ 9223372036854775807) (w : World) :
    Calls Try.prog 46 #[.agg (nm false (DV v))] w fun e w' => e = .returned (.tuple #[.int .i64 v, .bool true]) ∧ Below w.heap.size w w' := by
  obtain ⟨d1, d2⟩ := dv_of hD hv
  have c := int_any false (DV v) w d1
  have e : sv false (DV v) = v := d2
  have f := fit_yes (v := v) ⟨by omega, h1⟩
  rw [e, f.1, f.2.1] at c
  exact c
/-- two sizes compared -/
theorem rless_dv {u v : Int} {A B : Array Value} (hA : IsD A) (hu : lv A 12 = u) (hB : IsD B) (hv : lv B 12 = v) (w : World) :
    Calls Try.prog 48 #[.agg (DV u), .agg (DV v)] w fun e w' => e = .returned (.bool (decide (u < v))) ∧ Below w.heap.size w w' := by
  obtain ⟨a1, a2⟩ := dv_of hA hu
  obtain ⟨b1, b2⟩ := dv_of hB hv
  have c := less_any (DV u) (DV v) w a1 b1
  rw [a2, b2] at c
  exact c
theorem info_num : ∃ i z, Try.prog.info? 47 = some i ∧ i.zero = some z ∧ i.size = 13 ∧ i.bytes ≤ 1000 ∧ z.cells.size = 13 := by
  have h : (Try.prog.info? 47).map (fun i => (i.size, decide (i.bytes ≤ 1000), i.zero.map (·.cells.size))) = some (13, true, some 13) := by kernel_rfl
  cases hi : Try.prog.info? 47 with
  | none => simp [hi] at h
  | some i =>
    simp [hi] at h
    obtain ⟨h1, h2, z, h3, h4⟩ := h
    exact ⟨i, z, rfl, h3, h1, h2, h4⟩
end Go.Proofs.Ytanfhjfpdgjphaa
