/- net's Tick. Condition: the net is one. -/
import Derived.Test.YtfgcjgabknoamaaNetOps
import Derived.Laws.OwnMore
namespace Go.Proofs.Ytfgcjgabknoamaa
set_option linter.unusedVariables false
set_option linter.unusedSimpArgs false
open Go.RowKit

theorem NetIs.kept {w w' : World} {g base k : Nat} {F T Ag : Nat → Int} {S : Nat → Value} {Ln : Nat → Nat} {X : Nat → Nat → Int} (h : NetIs w g base k F T Ag S Ln X) (hb : Below w.heap.size w w') : NetIs w' g base k F T Ag S Ln X := by
  obtain ⟨v, hg, hr⟩ := h.row
  exact ⟨⟨v, Ytfgcjgabknoamaa.kept hb hg, own_below hb hr⟩, fun i hi => (h.by_ i hi).kept hb, h.sl, h.bg, h.ag, h.lg, h.hk⟩
theorem flat_set {L : Nat → Array Value} {c : Nat} (hL : ∀ i, (L i).size = c) (u : Value) : ∀ n i j, i < n → j < c → (flat L n).set (i * c + j) u = flat (fun r => if r = i then (L r).setIfInBounds j u else L r) n
  | 0, i, j, hi, _ => by omega
  | n + 1, i, j, hi, hj => by
    have hl := flatc_len hL n
    rw [flat, flat]
    by_cases e : i = n
    · subst e
      rw [List.set_append_right _ _ (by omega), hl, show i * c + j - i * c = j by omega, if_pos rfl, flat_congr (L := fun r => if r = i then (L r).setIfInBounds j u else L r) (L' := L) i (fun r hr => by rw [if_neg (by omega)])]
      simp
    · have h1 := mul_in (n := n) (c := c) (i := i) (j := j) (by omega) hj
      rw [List.set_append_left _ _ (by omega), flat_set hL u n i j (by omega) hj, if_neg (Ne.symm e)]
def tk (a : Int) : Int := if a < 18446744073709551615 then a + 1 else a
def tkJ (Ag : Nat → Int) (j : Nat) : Nat → Int := fun i => if i < j then tk (Ag i) else Ag i
theorem tick_none (w : World) : Calls Try.prog 14 #[.pointer none] w fun e w' => e = .returned (.tuple #[]) ∧ w = w' := by
  go_enter Try.func14, Try.ntmps14
  go_wp2
  exact bodyPost_ret (results_none rfl _ _ _) rfl ⟨rfl, rfl⟩
theorem tick_set {Ag : Nat → Int} {F T : Nat → Int} {S : Nat → Value} {k j : Nat} (h : j < k) : (flat (fun i => p4 (F i) (T i) (S i) (tkJ Ag j i)) k).set (j * 4 + 3) (.int .u64 (tk (Ag j))) = flat (fun i => p4 (F i) (T i) (S i) (tkJ Ag (j + 1) i)) k := by
  rw [flat_set (c := 4) (fun i => rfl) _ k j 3 h (by omega)]
  refine flat_congr k fun i hi => ?_
  by_cases e : i = j
  · subst e
    rw [if_pos rfl]
    show p4 _ _ _ _ = _
    rw [show tkJ Ag (i + 1) i = tk (Ag i) by unfold tkJ; rw [if_pos (by omega)]]
  · rw [if_neg e]
    rw [show tkJ Ag (j + 1) i = tkJ Ag j i by
      unfold tkJ
      by_cases h2 : i < j
      · rw [if_pos (by omega), if_pos h2]
      · rw [if_neg (by omega), if_neg h2]]
theorem tick_stay {Ag : Nat → Int} {F T : Nat → Int} {S : Nat → Value} {k j : Nat} (h : Ag j = 18446744073709551615) : flat (fun i => p4 (F i) (T i) (S i) (tkJ Ag j i)) k = flat (fun i => p4 (F i) (T i) (S i) (tkJ Ag (j + 1) i)) k := by
  refine flat_congr k fun i hi => ?_
  rw [show tkJ Ag (j + 1) i = tkJ Ag j i by
    unfold tkJ
    by_cases h2 : i < j
    · rw [if_pos (by omega), if_pos h2]
    · rw [if_neg h2]
      by_cases e : i = j
      · subst e; rw [if_pos (by omega)]; unfold tk; rw [if_neg (by omega)]
      · rw [if_neg (by omega)]]
set_option maxHeartbeats 2000000 in
theorem tick_kp (g base k : Nat) (F T Ag : Nat → Int) (S : Nat → Value) (Ln : Nat → Nat) (X : Nat → Nat → Int) (w : World) (hN : NetIs w g base k F T Ag S Ln X) :
    Calls Try.prog 14 #[.pointer (some ⟨g, 0, none⟩)] w fun e w' => e = .returned (.tuple #[]) ∧ NetIs w' g base k F T (fun i => tk (Ag i)) S Ln X ∧ Below base w w' ∧ Kp w w' := by
  obtain ⟨v, hg, hrow⟩ := hN.row
  obtain ⟨ra, rc, rfl, hR, hrk, _, hnil⟩ := own_rows (c := 4) (fun i => rfl) hrow
  have HN := Lib.hid hN
  have hby := Lib.hid hN.by_
  have hag := Lib.hid hN.ag
  have hk2 := hN.hk
  have hbg := hN.bg
  clear hN hR
  have cg := cellF hg
  go_enter Try.func14, Try.ntmps14
  go_wp2
  go_loopg [10] k (fun gh i wr => ∃ j : Nat, j ≤ k ∧ gh = k - j ∧ i = .int .i64 j ∧ wr.heap[g]? = some (.cells #[.slice ra k rc] 56 (0, 0)) ∧ wr.ownsRow base 60 4 (.slice ra k rc) k (flat (fun i => p4 (F i) (T i) (S i) (tkJ Ag j i)) k) ∧ (∀ i, i < k → BytT wr (S i) (Ln i) (X i)) ∧ Below base w wr ∧ Kp w wr)
  case atStart => exact ⟨0, by omega, by omega, rfl, hg, (by rw [flat_congr (L' := fun i => p4 (F i) (T i) (S i) (Ag i)) k (fun i hi => by unfold tkJ; simp)]; exact hrow), hby.out, Below.refl _ _, Kp.refl _⟩
  case round =>
    obtain ⟨j, hj, rfl, rfl, hgr, hor, hbr, hb, hkp⟩ := hrel
    have HKP := Lib.hid hkp
    clear hkp
    have HB := Lib.hid hbr
    clear hbr
    have cgr := cellF hgr
    by_cases hlt : j < k
    · obtain ⟨_, ⟨hvn, hkn⟩ | ⟨gb, cap, cur, hv, hbb, hgb, _, _, hcs, htk⟩⟩ := id hor
      · omega
      · cases hv
        have hlt4 := mul_in (n := k) (c := 4) (i := j) (j := 3) hlt (by omega)
        have hc3 : cur[j * 4 + 3]? = some (.int .u64 (Ag j)) := by
          have h1 := flatc_at (L := fun i => p4 (F i) (T i) (S i) (tkJ Ag j i)) (c := 4) (fun i => rfl) k j 3 hlt (by omega)
          rw [← htk, List.getElem?_take, if_pos hlt4, Array.getElem?_toList] at h1
          rw [h1]
          show some (Value.int .u64 (tkJ Ag j j)) = _
          unfold tkJ; rw [if_neg (by omega)]
        have cc := cellF hgb
        have fb := (cells_of hgb).2.1
        have ha := hag.out j hlt
        have HS := Lib.hid (tick_set (Ag := Ag) (F := F) (T := T) (S := S) hlt)
        have HT := Lib.hid (tick_stay (Ag := Ag) (F := F) (T := T) (S := S) (k := k) (j := j))
        have HTK := Lib.hid (show tk (Ag j) = if Ag j < 18446744073709551615 then Ag j + 1 else Ag j from rfl)
        have HOR := Lib.hid hor
        have HGB := Lib.hid hgb
        have HGR := Lib.hid hgr
        clear hor htk hgr
        have hne : g ≠ gb := fun e => by
          subst e; have h9 := HGR.out; rw [hgb] at h9; injection h9 with h9; injection h9 with _ h9; exact absurd h9 (by decide)
        generalize tk (Ag j) = ta at *
        by_cases hm : Ag j < 18446744073709551615
        · go_wp2
          have hta := HTK.out
          rw [if_pos hm] at hta
          rw [← hta]
          go_roundg (k - (j + 1))
          case measure => omega
          case rel =>
            have hs := HOR.out.stored (j * 4 + 3) (.int .u64 ta)
            rw [HS.out] at hs
            exact ⟨j + 1, by omega, rfl, by go_num, heap_set_other HGR.out hne, hs.1, fun i hi => (HB.out i hi).set HGB.out (by decide), below_set hb hbb, HKP.out.trans (Kp.set HGB.out (.inr rfl))⟩
        · go_wp2
          go_roundg (k - (j + 1))
          case measure => omega
          case rel =>
            have ho := HOR.out
            rw [HT.out (by omega)] at ho
            exact ⟨j + 1, by omega, rfl, by go_num, HGR.out, ho, HB.out, hb, HKP.out⟩
    · obtain rfl : j = k := by omega
      go_wp2
      (try simp only [Exit.inBlock, Exit.then]); first | go_end0 | refine bodyPost_ret (results_none rfl _ _ _) rfl ?_
      refine ⟨rfl, ⟨⟨_, hgr, ?_⟩, HB.out, HN.out.sl, hbg, fun i hi => ?_, HN.out.lg, hk2⟩, hb, HKP.out⟩
      · rw [flat_congr (L' := fun i => p4 (F i) (T i) (S i) (tkJ Ag j i)) j (fun i hi => by unfold tkJ; rw [if_pos hi])]
        exact hor
      · have := HN.out.ag i hi
        show 0 ≤ tk (Ag i) ∧ tk (Ag i) ≤ _
        unfold tk
        by_cases h : Ag i < 18446744073709551615
        · rw [if_pos h]; omega
        · rw [if_neg h]; omega
theorem tick_any (g base k : Nat) (F T Ag : Nat → Int) (S : Nat → Value) (Ln : Nat → Nat) (X : Nat → Nat → Int) (w : World) (hN : NetIs w g base k F T Ag S Ln X) :
    Calls Try.prog 14 #[.pointer (some ⟨g, 0, none⟩)] w fun e w' => e = .returned (.tuple #[]) ∧ NetIs w' g base k F T (fun i => tk (Ag i)) S Ln X ∧ Below base w w' :=
  (tick_kp g base k F T Ag S Ln X w hN).mono fun e w' ⟨h1, h2, h3, _⟩ => ⟨h1, h2, h3⟩
end Go.Proofs.Ytfgcjgabknoamaa
