/- FixnumWhole, walked: it returns true. Condition: the numbers fit their kinds. -/
import Derived.Test.YtanfhjfpdgjphaaSplitA
import Derived.Test.YtanfhjfpdgjphaaAll01
import Derived.Test.YtanfhjfpdgjphaaFrm
import Derived.BigQuiet
import Derived.Deep.CutBlock
namespace Go.Proofs.Ytanfhjfpdgjphaa
set_option linter.unusedVariables false
set_option linter.unusedSimpArgs false
open Go.RowKit

/-- the parts as the numbers of a slice -/
def prZ (Z : Nat → Int) (n : Nat) (T : Int) : Nat → Int := fun i => if i < n then (splP Z n T i : Nat) else 0
theorem prZ_sum (Z : Nat → Int) (n : Nat) (T : Int) : ∀ k, k ≤ n → sumZ (prZ Z n T) k = (sumN (splP Z n T) k : Nat)
  | 0, _ => rfl
  | k + 1, h => by
    show sumZ (prZ Z n T) k + prZ Z n T k = ((sumN (splP Z n T) k + splP Z n T k : Nat) : Int)
    rw [prZ_sum Z n T k (by omega)]
    unfold prZ; rw [if_pos (by omega)]; omega
/-- the laws of the parts -/
structure Parts (Z : Nat → Int) (n : Nat) (T : Int) : Prop where
  sum : (sumN (splP Z n T) n : Nat) = T
  bd : ∀ i, i < n → (splP Z n T i : Int) ≤ T
  none : ∀ i, i < n → Z i = 0 → splP Z n T i = 0
  most : ∀ i, i < n → T ≤ sumZ Z n → (splP Z n T i : Int) ≤ Z i
  mono : ∀ i k, i < n → k < n → Z k < Z i → splP Z n T k ≤ splP Z n T i
  same : ∀ i k, i < n → k < i → Z i = Z k → splP Z n T i ≤ splP Z n T k ∧ splP Z n T k ≤ splP Z n T i + 1
theorem sumN_two (W : Nat → Nat) {n i k : Nat} (hi : i < n) (hk : k < i) : W k + W i ≤ sumN W n := by
  have h1 := sumN_mono W n (show i + 1 ≤ n by omega)
  have h2 := sumN_one W hk
  have e : sumN W (i + 1) = sumN W i + W i := rfl
  omega
theorem Parts.two {Z : Nat → Int} {n : Nat} {T : Int} (h : Parts Z n T) : ∀ i k, i < n → k < i → (splP Z n T k : Int) + splP Z n T i ≤ T := fun i k hi hk => by
  have := sumN_two (splP Z n T) hi hk
  have := h.sum
  omega
theorem parts_of {Z : Nat → Int} {n : Nat} {T : Int} (h : splE Z n T = 0) : Parts Z n T := by
  obtain ⟨h1, h2, h3, h4, h5, h6⟩ := splE_zero h
  by_cases h0 : T = 0
  · subst h0
    have e : ∀ i, splP Z n 0 i = 0 := fun i => prt_zero _ _ _
    have es : sumN (splP Z n 0) n = 0 := by rw [sumN_congr (V := fun _ => 0) n (fun i _ => e i), sumN_const]; omega
    exact ⟨by rw [es]; rfl, fun i _ => by rw [e]; omega, fun i _ _ => e i, fun i hi _ => by rw [e]; have := h3 i hi; omega, fun i k _ _ _ => by rw [e, e]; omega, fun i k _ _ _ => by rw [e, e]; omega⟩
  · have hS := h4 h0
    obtain ⟨t, rfl⟩ : ∃ t : Nat, T = (t : Int) := ⟨T.toNat, by omega⟩
    have e : ∀ i, splP Z n (t : Int) i = prt (wts Z) n t i := fun i => rfl
    have ez : ∀ i, i < n → Z i = (wts Z i : Nat) := fun i hi => by have := h3 i hi; unfold wts; omega
    refine ⟨?_, fun i hi => ?_, fun i hi hz => ?_, fun i hi hT => ?_, fun i k hi hk hz => ?_, fun i k hi hk hz => ?_⟩
    · have : sumN (splP Z n (t : Int)) n = t := prt_sum hS
      rw [this]
    · rw [e]; have := prt_le (T := t) hS hi; omega
    · rw [e]; exact prt_none hS hi (by have := ez i hi; omega)
    · rw [e, ez i hi]
      have := prt_within (T := t) hS hi (by omega)
      omega
    · rw [e, e]; exact prt_mono hS hi hk (by have := ez i hi; have := ez k hk; omega)
    · rw [e, e]; exact prt_same hS hi hk (by have := ez i hi; have := ez k (by omega); omega)

def WREL (n : Nat) (b : Nat) (w : World) (gh : Nat) (v : Value) (wr : World) : Prop := ∃ j : Nat, j ≤ n ∧ gh = n - j ∧ v = .int .i64 j ∧ Below b w wr
set_option maxRecDepth 100000 in
set_option maxHeartbeats 8000000 in
theorem whole_walk (a : Option Addr) (n cap : Nat) (Z : Nat → Int) (T : Int) (W : World) (hT : F64 T) (hZ : ∀ i, F64 (Z i)) (hA : Ints W a n Z) :
    Calls Try.prog 11 #[.int .i64 T, .slice a n cap] W fun e W' => e = .returned (.bool true) ∧ Below W.heap.size W W' := by
  by_cases hlong : 200 < n
  · clear hT hZ hA
    go_enter Try.func11, Try.ntmps11
    go_wp2_with (first | (go_at_call 17; (with_reducible refine (known01 _).mono ?_); rintro e w5 ⟨rfl, hb5⟩))
    go_ret
    exact ⟨rfl, hb5⟩
  · have cs := split_any a n cap Z T W hZ hA hT
    unfold SplC at cs
    have HA := Lib.hid hA
    have HF := Lib.hid hZ
    have HT := Lib.hid hT
    clear hA hZ hT
    by_cases hE : splE Z n T = 0
    · have HP := Lib.hid (parts_of hE)
      have HZ0 := Lib.hid (splE_zero hE)
      have HE := Lib.hid hE
      rw [hE] at cs
      clear hE
      go_enter Try.func11, Try.ntmps11
      go_wp2_with fail
      refine cs.mono ?_
      rintro e w1 ⟨⟨v, rfl, hv⟩, hb1⟩
      obtain ⟨g, P, rfl, hg, hgP, hP1, hP2⟩ := hv.1 HE.out
      have hIl : Ints w1 (some ⟨g, 0, none⟩) n (prZ Z n T) := fun i hi => ⟨g, 0, P, _, _, rfl, hgP, by rw [Nat.zero_add, hP2 i hi]; unfold prZ; rw [if_pos hi]⟩
      have hFl : ∀ i, F64 (prZ Z n T i) := fun i => by
        have h1 := HT.out
        unfold F64 at h1 ⊢
        unfold prZ
        split
        · rename_i hi; have := HP.out.bd i hi; omega
        · omega
      have c1 := fsum_any (some ⟨g, 0, none⟩) n n (prZ Z n T) w1 hFl hIl (by omega)
      rw [prZ_sum Z n T n (Nat.le_refl _), HP.out.sum, (fit_yes (v := T) HT.out).2.1, (fit_yes (v := T) HT.out).2.2] at c1
      have c2 := fsum_any a n cap Z w1 HF.out (HA.out.kept hb1) (by omega)
      obtain ⟨S, hS⟩ : ∃ S, S = sumZ Z n := ⟨_, rfl⟩
      have hSf := HZ0.out.2.2.2.2
      rw [← hS] at hSf
      rw [← hS, (fit_yes (v := S) (by omega)).2.1, (fit_yes (v := S) (by omega)).2.2] at c2
      have HSS := Lib.hid hS
      have HgP := Lib.hid hgP
      have HP2 := Lib.hid hP2
      have HB1 := Lib.hid hb1
      clear hS hSf hFl hIl hgP hP1 hP2 hv hb1 cs
      go_wp2_with fail
      refine c1.mono ?_
      rintro e w2 ⟨rfl, rfl⟩
      go_wp2_with fail
      refine c2.mono ?_
      rintro e w2 ⟨rfl, rfl⟩
      clear c1 c2
      go_wp2_with fail
      refine wp_loop_ghost_k (fun gh ac wr => ∃ (u : Nat → Value), WREL n w1.heap.size w1 gh (u 61) wr ∧ ac = { tmps := #[.int .i64 T, .slice a n cap, u 2, u 3, u 4, .slice (some ⟨g, 0, none⟩) n n, u 6, u 7, u 8, .int .i64 S, u 10, u 11, u 12, u 13, u 14, u 15, u 16, u 17, u 18, u 19, u 20, u 21, u 22, u 23, u 24, u 25, u 26, u 27, u 28, u 29, u 30, u 31, u 32, u 33, u 34, u 35, u 36, u 37, u 38, u 39, u 40, u 41, u 42, u 43, u 44, u 45, u 46, u 47, u 48, u 49, u 50, u 51, u 52, u 53, u 54, u 55, u 56, u 57, u 58, u 59, .int .i64 n, u 61, u 62, u 63, u 64, u 65, u 66, u 67, u 68, u 69, u 70, u 71, u 72, u 73, u 74, u 75, u 76, u 77, u 78, u 79, u 80, u 81, u 82, u 83, u 84, u 85, u 86, u 87, u 88, u 89, u 90, u 91, u 92, u 93, u 94, u 95, u 96, u 97, u 98, u 99, u 100, u 101, u 102, u 103, u 104, u 105, u 106, u 107, u 108, u 109, u 110, u 111, u 112, u 113, u 114, u 115, u 116, u 117, u 118, u 119, u 120, u 121, u 122, u 123, u 124, u 125, u 126, u 127, u 128, u 129, u 130, u 131, u 132, u 133, u 134, u 135, u 136, u 137, u 138, u 139, u 140, u 141, u 142, u 143, u 144, u 145, u 146, u 147, u 148, u 149, u 150, u 151, u 152, u 153, u 154, u 155, u 156, u 157, u 158, u 159, u 160, u 161, u 162, u 163, u 164, u 165, u 166, u 167, u 168, u 169, u 170, u 171, u 172, u 173, u 174, u 175, u 176, u 177, u 178, u 179, u 180, u 181, u 182, u 183, u 184], defers := [] }) n ?_ ?_
      · exact ex_act ⟨0, by omega, by omega, rfl, Below.refl _ _⟩ (by rfl)
      · rintro gh ac wr ⟨u, ⟨i, hi, rfl, e61, hb2⟩, rfl⟩ J K9 hJ hK
        rw [e61]
        have HB2 := Lib.hid hb2
        have HJ := Lib.hid hJ
        clear hb2 e61 hJ
        by_cases hlt : i < n
        · obtain ⟨ga, off, A, t, fr, rfl, hgA, hz⟩ := (HA.out.kept (below_then HB1.out HB2.out)) i hlt
          have cA := cellF hgA
          have cP := cellF (Ytanfhjfpdgjphaa.kept HB2.out HgP.out)
          have pi := HP2.out i hlt
          have hin : (i : Int) < n := by omega
          have h0 := HP.out.none i hlt
          have h1 := HP.out.most i hlt
          rw [← HSS.out] at h1
          obtain ⟨z, hzz⟩ : ∃ z, z = Z i := ⟨_, rfl⟩
          rw [← hzz] at hz h0 h1
          obtain ⟨p, hp⟩ : ∃ p, p = splP Z n T i := ⟨_, rfl⟩
          rw [← hp] at pi h0 h1
          clear hp hzz hgA
          go_upto_region 13 with fail
          go_cut [98] from 64 to 98 (fun v98 wx => v98 = .bool false ∧ Below w1.heap.size w1 wx)
          case first =>
            by_cases hzz : z = 0
            · have hp0 := h0 hzz
              rw [hp0] at pi
              have pi0 : P[i]? = some (.int .i64 0) := pi
              subst hzz
              clear h0 pi hp0 h1
              by_cases hTS : T ≤ S
              · go_quiet (fail)
                go_wp2_with fail
                go_meet
                exact ⟨rfl, below_drawn HB2.out⟩
              · go_quiet (fail)
                go_wp2_with fail
                go_meet
                exact ⟨rfl, below_drawn HB2.out⟩
            · have hzz' : (z == 0) = false := by rw [beq_eq_false_iff_ne]; exact hzz
              clear h0
              have hp0 : ¬ (p : Int) < 0 := by omega
              by_cases hTS : T ≤ S
              · have h1 := h1 hTS
                have h1' : ¬ z < (p : Int) := by omega
                clear h1
                go_quiet (fail)
                go_wp2_with fail
                go_meet
                exact ⟨rfl, below_drawn HB2.out⟩
              · clear h1
                go_quiet (fail)
                go_wp2_with fail
                go_meet
                exact ⟨rfl, below_drawn HB2.out⟩
          case rest =>
            obtain ⟨rfl, hbw⟩ := hcut
            have HB2' := Lib.hid hbw
            clear hbw HB2 cP cA pi h0 h1 hz
            go_wp2_with fail
            refine wp_loop_ghost_k (fun gh ac wx => ∃ (u : Nat → Value), WREL i w1.heap.size w1 gh (u 103) wx ∧ ac = { tmps := #[.int .i64 T, .slice (some ⟨ga, off, none⟩) n cap, u 2, u 3, u 4, .slice (some ⟨g, 0, none⟩) n n, u 6, u 7, u 8, .int .i64 S, u 10, .int .i64 i, u 12, u 13, u 14, u 15, u 16, u 17, u 18, u 19, u 20, u 21, u 22, u 23, u 24, u 25, u 26, u 27, u 28, u 29, u 30, u 31, u 32, u 33, u 34, u 35, u 36, u 37, u 38, u 39, u 40, u 41, u 42, u 43, u 44, u 45, u 46, u 47, u 48, u 49, u 50, u 51, u 52, u 53, u 54, u 55, u 56, u 57, u 58, u 59, .int .i64 n, .int .i64 i, u 62, u 63, u 64, u 65, u 66, u 67, u 68, u 69, u 70, u 71, u 72, u 73, u 74, u 75, u 76, u 77, u 78, u 79, u 80, u 81, u 82, u 83, u 84, u 85, u 86, u 87, u 88, u 89, u 90, u 91, u 92, u 93, u 94, u 95, u 96, u 97, u 98, u 99, u 100, u 101, .int .i64 i, u 103, u 104, u 105, u 106, u 107, u 108, u 109, u 110, u 111, u 112, u 113, u 114, u 115, u 116, u 117, u 118, u 119, u 120, u 121, u 122, u 123, u 124, u 125, u 126, u 127, u 128, u 129, u 130, u 131, u 132, u 133, u 134, u 135, u 136, u 137, u 138, u 139, u 140, u 141, u 142, u 143, u 144, u 145, u 146, u 147, u 148, u 149, u 150, u 151, u 152, u 153, u 154, u 155, u 156, u 157, u 158, u 159, u 160, u 161, u 162, u 163, u 164, u 165, u 166, u 167, u 168, u 169, u 170, u 171, u 172, u 173, u 174, u 175, u 176, u 177, u 178, u 179, u 180, u 181, u 182, u 183, u 184], defers := [] }) i ?_ ?_
            · exact ex_act ⟨0, by omega, by omega, rfl, HB2'.out⟩ (by rfl)
            · rintro gh2 ac2 wx ⟨v, ⟨k, hk, rfl, e103, hb3⟩, rfl⟩ J2 K2 hJ2 hK2
              rw [e103]
              have HB3 := Lib.hid hb3
              have HJ2 := Lib.hid hJ2
              clear hb3 e103 hJ2
              by_cases hlt2 : k < i
              · have hki : (k : Int) < i := by omega
                have hkn : (k : Int) < n := by omega
                obtain ⟨g', off', A', t', fr', ea, hgA3, hz3⟩ := (HA.out.kept (below_then HB1.out HB3.out)) i (by omega)
                injection ea with ea; injection ea with ea1 ea2
                subst ea1; subst ea2
                obtain ⟨g', off', A4, t4, fr4, ea, hgA4, hz4⟩ := (HA.out.kept (below_then HB1.out HB3.out)) k (by omega)
                injection ea with ea; injection ea with ea1 ea2
                subst ea1; subst ea2
                rw [hgA3] at hgA4
                injection hgA4 with e4; injection e4 with e4 e5 e6
                subst e4
                have cA3 := cellF hgA3
                have cP3 := cellF (Ytanfhjfpdgjphaa.kept HB3.out HgP.out)
                have pi := HP2.out i (by omega)
                have pk := HP2.out k (by omega)
                have hik := HP.out.mono i k (by omega) (by omega)
                have hki2 := HP.out.mono k i (by omega) (by omega)
                have hsm := HP.out.same i k (by omega) (by omega)
                have hbk := HP.out.two i k (by omega) (by omega)
                have hbi := HP.out.bd i (by omega)
                have hTb := HT.out
                unfold F64 at hTb
                obtain ⟨y, hy⟩ : ∃ y, y = Z k := ⟨_, rfl⟩
                obtain ⟨z, hz⟩ : ∃ z, z = Z i := ⟨_, rfl⟩
                rw [← hz] at hz3
                rw [← hy] at hz4
                rw [← hy, ← hz] at hik hki2 hsm
                generalize splP Z n T i = p at *
                generalize splP Z n T k = q at *
                clear hgA3 hy hz e5 e6
                have HBD := Lib.hid hTb
                go_upto_region 18 with fail
                go_cut [181] from 106 to 181 (fun v181 wy => v181 = .bool false ∧ Below w1.heap.size w1 wy)
                case first =>
                  rcases Int.lt_trichotomy z y with h | h | h
                  · have h1 : ¬ y < z := by omega
                    have h2 : ¬ (q : Int) < (p : Int) := by have := hki2 h; omega
                    have h3 : (z == y) = false := by rw [beq_eq_false_iff_ne]; omega
                    clear hik hki2 hsm hbk hbi hTb
                    go_quiet (fail)
                    go_wp2_with fail
                    go_meet
                    exact ⟨rfl, below_drawn HB3.out⟩
                  · subst h
                    have h1 : ¬ (q : Int) < (p : Int) := by have := hsm rfl; omega
                    obtain ⟨p1, hp1⟩ : ∃ p1, p1 = p + 1 := ⟨_, rfl⟩
                    have h2 : ¬ (p1 : Int) < (q : Int) := by have := hsm rfl; omega
                    have h4 : IntKind.i64.wrap ((p : Int) + 1) = (p1 : Int) := wrapN64 (by omega) (by have := hsm rfl; omega)
                    clear hik hki2 hsm hbk hbi hTb hp1
                    go_quiet (fail)
                    go_wp2_with fail
                    go_meet
                    exact ⟨rfl, below_drawn HB3.out⟩
                  · have h1 : ¬ z < y := by omega
                    have h2 : ¬ (p : Int) < (q : Int) := by have := hik h; omega
                    have h3 : (z == y) = false := by rw [beq_eq_false_iff_ne]; omega
                    clear hik hki2 hsm hbk hbi hTb
                    go_quiet (fail)
                    go_wp2_with fail
                    go_meet
                    exact ⟨rfl, below_drawn HB3.out⟩
                case rest =>
                  obtain ⟨rfl, hbw⟩ := hcut
                  have HB4 := Lib.hid hbw
                  clear hbw cA3 cP3 pi pk hik hki2 hsm hbk hbi hTb HB3 hz3 hz4
                  go_wp2_with fail
                  exact close_round HJ2.out (i - (k + 1)) (by omega) (ex_act ⟨k + 1, by omega, rfl, rfl, HB4.out⟩ (by rfl))
              · obtain rfl : k = i := by omega
                go_wp2_with fail
                exact close_round HJ.out (n - (k + 1)) (by omega) (ex_act ⟨k + 1, by omega, rfl, rfl, HB3.out⟩ (by rfl))
        · obtain rfl : i = n := by omega
          go_wp2_with (first | (go_at_call 17; (with_reducible refine (known01 _).mono ?_); rintro e w5 ⟨rfl, hb5⟩))
          go_ret
          exact ⟨rfl, below_then HB1.out (below_then HB2.out hb5)⟩
    · have HE := Lib.hid hE
      obtain ⟨ee, hee⟩ : ∃ ee, ee = splE Z n T := ⟨_, rfl⟩
      have hez : (ee == 0) = false := by rw [beq_eq_false_iff_ne, hee]; exact hE
      rw [← hee] at cs
      clear hE
      go_enter Try.func11, Try.ntmps11
      go_wp2_with fail
      refine cs.mono ?_
      rintro e w1 ⟨⟨v, rfl, hv⟩, hb1⟩
      obtain rfl := hv.2 HE.out
      clear hv hee
      go_wp2_with (first | (go_at_call 17; (with_reducible refine (known01 _).mono ?_); rintro e w5 ⟨rfl, hb5⟩))
      go_ret
      exact ⟨rfl, below_then hb1 hb5⟩
theorem whole_w (T : Int) (a : Option Addr) (n cap : Nat) (Z : Nat → Int) (W : World) (hT : F64 T) (hZ : ∀ i, F64 (Z i)) (hA : Ints W a n Z) (_ : n ≤ cap) (_ : cap ≤ 9223372036854775807) (_ : a = none → n = 0 ∧ cap = 0) :
    Calls Try.prog 11 #[.int .i64 T, .slice a n cap] W fun e W' => e = .returned (.bool true) ∧ Below W.heap.size W W' := whole_walk a n cap Z T W hT hZ hA
end Go.Proofs.Ytanfhjfpdgjphaa
