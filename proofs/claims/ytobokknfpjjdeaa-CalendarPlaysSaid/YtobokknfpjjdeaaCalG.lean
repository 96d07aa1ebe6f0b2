/- A calendar that was made: what is there is got, and gets a price; one of a later day is not due. Condition: the calendar is one. -/
import Derived.Test.YtobokknfpjjdeaaCalM
import Derived.Laws.OwnMore
import Derived.BigQuiet
namespace Go.Proofs.Ytobokknfpjjdeaa
set_option linter.unusedVariables false
set_option linter.unusedSimpArgs false
open Go.RowKit

theorem flat_set {L : Nat → Array Value} {c : Nat} (hL : ∀ i, (L i).size = c) (u : Value) : ∀ n i j, i < n → j < c → (flat L n).set (i * c + j) u = flat (fun r => if r = i then (L r).setIfInBounds j u else L r) n
  | 0, i, j, hi, _ => by omega
  | n + 1, i, j, hi, hj => by
    have hl := flatc_len hL n
    rw [flat, flat]
    by_cases e : i = n
    · subst e
      rw [List.set_append_right _ _ (by omega), hl, show i * c + j - i * c = j by omega, if_pos rfl, flat_congr (L := fun r => if r = i then (L r).setIfInBounds j u else L r) (L' := L) i (fun r hr => by rw [if_neg (by omega)])]
      simp
    · have h1 := mul_in (n := n) (c := c) (i := i) (j := j) (by omega) hj
      rw [List.set_append_left _ _ (by omega), flat_set hL u n i j (by omega) hj, if_neg (Ne.symm e)]
set_option maxRecDepth 100000 in
theorem cget_in {w : World} {g base k : Nat} {day : Int} {L : Nat → Array Value} {n : Int} {i : Nat} (h : CalIs w g base k day L) (hi : i < k) (hn : N (L i) 0 = n) :
    Calls Try.prog 26 #[.pointer (some ⟨g, 0, none⟩), .int .u32 n] w fun e w' => e = .returned (.tuple #[.agg (L i), .int .i64 0]) ∧ Below w.heap.size w w' := by
  obtain ⟨gb, rc, A, hA, _⟩ := h.at_row (by omega)
  have hb0 := below_new w (Obj.cells cz 65)
  have h1 := h.kept hb0
  have hA1 := hA.kept hb0
  have hc := heap_alloc_new w (Obj.cells cz 65)
  have cr := Lib.hid (cready_yes h1)
  have ca := Lib.hid (cat_in h1 hi hn)
  have hk := h.hk
  have HA := Lib.hid hA1
  have HZ := Lib.hid (h.con i).size
  have HC := Lib.hid (h.con i).all
  have HCZ := Lib.hid cz_size
  have hik : (i : Int) < k := by omega
  clear h h1 hA hA1 hn
  go_enter Try.func26, Try.ntmps26
  go_wp2_with (first | ((with_reducible refine at_alloc 65 ?_); refine wpList_alloc_named rfl 65 rfl cz (by kernel_rfl) ?_) | (go_at_call 57; (with_reducible refine (cr.out).mono ?_); rintro e w1 ⟨rfl, rfl⟩) | (go_at_call 59; (with_reducible refine (ca.out).mono ?_); rintro e w1 ⟨rfl, hb⟩; have h2 := HA.out.kept hb; have c1 := cellF h2.1; have hg2 := h2.2.1; have HX := Lib.hid (h2.2.2 i hi); have hc1 := Ytobokknfpjjdeaa.kept hb hc; clear h2) | ((with_reducible refine at_load 65 ?_); refine wpList_load_part rfl 65 _ rfl (gb) (i * 27) rfl _ (A) _ _ 27 (hg2) Try.underlying65 rfl (by kernel_rfl) (HX.out.1) (L i) (HX.out.2) ?_) | ((with_reducible refine at_store 65 ?_); refine wpList_store_over rfl 65 _ _ rfl (w.heap.size) (L i) rfl rfl _ _ (hc1) (by rw [HZ.out]; kernel_rfl) (by rw [HZ.out]; exact HCZ.out) (HC.out) ?_; intro w3 hg3 hs3 ho3 hb3))
  exact post_cell_tmp (g := w.heap.size) (t := 65) (v := .int .i64 0) rfl rfl rfl rfl hg3 Try.underlying65 rfl (by rw [HZ.out]; kernel_rfl) ⟨rfl, (below_then hb0 hb).trans (hb3 _ (Nat.le_refl _))⟩
/-- a contract with another price -/
def pr (L : Nat → Array Value) (i : Nat) (x : Int) : Nat → Array Value := fun r => if r = i then (L r).setIfInBounds 26 (.int .i64 x) else L r
theorem N_pr {L : Nat → Array Value} {i : Nat} {x : Int} (r j : Nat) (hj : j ≠ 26) : N (pr L i x r) j = N (L r) j := by
  unfold pr
  split
  · unfold N; rw [Array.getElem?_setIfInBounds_ne (Ne.symm hj)]
  · rfl
theorem con_pr {L : Nat → Array Value} {i : Nat} {x : Int} (hL : ∀ i, IsCon (L i)) (hx : F64 x) (r : Nat) : IsCon (pr L i x r) := by
  unfold pr
  split
  · have h := hL r
    refine ⟨by simp [h.size], ?_, ?_, ?_⟩
    · rw [extract_set_out (by omega)]; exact h.sp
    · have h1 := h.st
      unfold IsN at h1 ⊢
      rw [show N ((L r).setIfInBounds 26 (.int .i64 x)) 25 = N (L r) 25 by unfold N; rw [Array.getElem?_setIfInBounds_ne (by omega)], Array.getElem?_setIfInBounds_ne (by omega)]
      exact h1
    · exact IsN_of (by rw [Array.getElem?_setIfInBounds_self, if_pos (by rw [h.size]; omega)]) hx
  · exact hL r
set_option maxRecDepth 100000 in
set_option maxHeartbeats 1000000 in
theorem cpub_in {w : World} {g base k : Nat} {day : Int} {L : Nat → Array Value} {n : Int} {i : Nat} (x : Int) (h : CalIs w g base k day L) (hi : i < k) (hn : N (L i) 0 = n) (hs : N (L i) 25 ≠ 3) (hx : F64 x) (hp : ipB ((L i).extract 0 25) x = true) :
    Calls Try.prog 28 #[.pointer (some ⟨g, 0, none⟩), .int .u32 n, .int .i64 x] w fun e w' => e = .returned (.int .i64 0) ∧ CalIs w' g base k day (pr L i x) ∧ Below base w w' := by
  obtain ⟨gb, rc, A, hA, hbb, hsz, hkr, hrc, htk⟩ := h.at_row (by omega)
  have ca := Lib.hid (calive_yes h hi hn hA hs)
  have HI := Lib.hid h
  have HA := Lib.hid hA
  have hex : A.extract (i * 27) (i * 27 + 25) = (L i).extract 0 25 := by
    have h1 := (hA.2.2 i hi).2
    have h2 := congrArg (fun B : Array Value => B.extract 0 25) h1
    simp only [Array.extract_extract] at h2
    rw [show min (i * 27 + 25) (i * 27 + 27) = i * 27 + 25 by omega] at h2
    simpa using h2
  have HX := Lib.hid hex
  have HZ := Lib.hid (show i * 27 + 27 ≤ A.size from (hA.2.2 i hi).1)
  have cp := Lib.hid (fun w1 => isprice_any ((L i).extract 0 25) x w1 (h.con i).sp hx)
  rw [hp] at cp
  have hlt26 : A[i * 27 + 26]? = some (A[i * 27 + 26]'(by have := HZ.out; omega)) := Array.getElem?_eq_getElem _
  obtain ⟨v26, hv26⟩ : ∃ v, A[i * 27 + 26]? = some v := ⟨_, hlt26⟩
  have HF := Lib.hid (fun (w1 : World) (hb1 : Below w.heap.size w w1) => show CalIs (w1.setCell ⟨gb, i * 27 + 26, none⟩ (.int .i64 x)) g base k day (pr L i x) ∧ Below base w (w1.setCell ⟨gb, i * 27 + 26, none⟩ (.int .i64 x)) from by
    have hA1 := hA.kept hb1
    have hbw : base ≤ w.heap.size := by have := (Array.getElem?_eq_some_iff.1 hA.2.1).1; omega
    have hgb : g ≠ gb := fun e => by
      have h1 := hA1.1; have h2 := hA1.2.1; rw [e, h2] at h1; injection h1 with h1; injection h1 with _ h1; exact absurd h1 (by decide)
    have hown : w1.ownsRow base 65 27 (.slice (some ⟨gb, 0, none⟩) k rc) k (flat L k) := ⟨flatc_len (fun i => (h.con i).size) k, .inr ⟨gb, rc, A, rfl, hbb, hA1.2.1, hkr, by unfold maxLen; omega, hsz, htk⟩⟩
    refine ⟨⟨⟨_, heap_set_other hA1.1 hgb, ?_⟩, con_pr h.con hx, fun a c hac hc => ?_, h.bg, h.hk, h.hd⟩, below_set (hb1.mono hbw) hbb⟩
    · have hst := hown.stored (i * 27 + 26) (.int .i64 x)
      rw [flat_set (c := 27) (fun i => (h.con i).size) _ k i 26 hi (by omega)] at hst
      exact hst.1
    · rw [N_pr _ _ (by omega), N_pr _ _ (by omega)]; exact h.srt a c hac hc)
  clear h hA hn hs hex htk hp hlt26
  go_enter Try.func28, Try.ntmps28
  go_wp2_with (first | (go_at_call 61; (with_reducible refine (ca.out).mono ?_); rintro e w1 ⟨rfl, hb⟩; have h2 := HA.out.kept hb; have hg2 := h2.2.1; clear h2) | ((with_reducible refine at_load 61 ?_); refine wpList_load_part rfl 61 _ rfl (gb) (i * 27) rfl _ (A) _ _ 25 (hg2) Try.underlying61 rfl (by kernel_rfl) (by have := HZ.out; omega) ((L i).extract 0 25) (HX.out) ?_) | (go_at_call 62; (with_reducible refine (cp.out _).mono ?_); rintro e w2 ⟨rfl, hb2⟩; have hb3 := below_then hb hb2; have hg3 := Ytobokknfpjjdeaa.kept hb2 hg2; have c3 := cellF hg3; have f3 := (cells_of hg3).2.1))
  go_ret
  exact ⟨rfl, HF.out _ hb3⟩
set_option maxRecDepth 100000 in
set_option maxHeartbeats 1000000 in
theorem cdue_early {w : World} {g base k : Nat} {day : Int} {L : Nat → Array Value} {n : Int} {i : Nat} (h : CalIs w g base k day L) (hi : i < k) (hn : N (L i) 0 = n) (hs : N (L i) 25 ≠ 3) (hd : day < N (L i) 23) :
    Calls Try.prog 35 #[.pointer (some ⟨g, 0, none⟩), .int .u32 n] w fun e w' => e = .returned (.int .i64 51) ∧ Below w.heap.size w w' := by
  obtain ⟨gb, rc, A, hA, hbb, hsz, hkr, hrc, htk⟩ := h.at_row (by omega)
  have ca := Lib.hid (calive_yes h hi hn hA hs)
  have HA := Lib.hid hA
  have hc23 : A[i * 27 + 23]? = some (.int .u32 (N (L i) 23)) := by
    rw [hA.cell hi (by omega)]
    have h1 := (h.con i).sp.c23.u32.1
    have hN : N ((L i).extract 0 25) 23 = N (L i) 23 := by
      unfold N
      rw [Array.getElem?_extract, if_pos (by have := (h.con i).size; omega), Nat.zero_add]
    rw [hN, Array.getElem?_extract, if_pos (by have := (h.con i).size; omega), Nat.zero_add] at h1
    exact h1
  clear h hA hn hs htk
  generalize N (L i) 23 = ld at *
  go_enter Try.func35, Try.ntmps35
  go_wp2_with (first | (go_at_call 61; (with_reducible refine (ca.out).mono ?_); rintro e w1 ⟨rfl, hb⟩; have h2 := HA.out.kept hb; have c1 := cellF h2.1; have c2 := cellF h2.2.1; have c11 := cellF (heap_up (o := Obj.cells #[.pointer (some ⟨gb, i * 27, none⟩)] 110) h2.1); have c12 := cellF (heap_up (o := Obj.cells #[.pointer (some ⟨gb, i * 27, none⟩)] 110) h2.2.1); clear h2))
  go_quiet (fail)
  go_wp2
  go_ret
  exact ⟨rfl, below_drawn (below_then hb (below_new _ _))⟩
end Go.Proofs.Ytobokknfpjjdeaa
