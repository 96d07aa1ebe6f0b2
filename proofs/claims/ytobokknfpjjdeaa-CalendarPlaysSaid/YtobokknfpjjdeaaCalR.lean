/- alive, Get, Publish, Halt and Next of a calendar. Condition: the calendar is one. -/
import Derived.Test.YtobokknfpjjdeaaCalLB
namespace Go.Proofs.Ytobokknfpjjdeaa
set_option linter.unusedVariables false
set_option linter.unusedSimpArgs false
open Go.RowKit

/-- every block but g and the row that g has stays, and g has that row still -/
def Kv (g : Nat) (A B : World) : Prop := ∀ v d, A.heap[g]? = some (.cells #[.bool true, .int .u32 d, v] 93 (0, 0)) →
  (∀ i, i ≠ g → some i ≠ v.ownBlock → i < A.heap.size → B.heap[i]? = A.heap[i]?) ∧ ∃ d', B.heap[g]? = some (.cells #[.bool true, .int .u32 d', v] 93 (0, 0))
theorem Kv.trans {g : Nat} {A B C : World} (h1 : Kv g A B) (hs : A.heap.size ≤ B.heap.size) (h2 : Kv g B C) : Kv g A C := fun v d hv => by
  obtain ⟨a1, d1, a2⟩ := h1 v d hv
  obtain ⟨b1, d2, b2⟩ := h2 v d1 a2
  exact ⟨fun i hi hne hlt => (b1 i hi hne (by omega)).trans (a1 i hi hne hlt), d2, b2⟩
theorem kv_below {g : Nat} {A B : World} (h : Below A.heap.size A B) : Kv g A B := fun v d hv => ⟨fun i _ _ hlt => h.block i hlt, d, Ytobokknfpjjdeaa.kept h hv⟩
theorem Kv.of {g : Nat} {A B : World} {v : Value} {d d' : Int} (hg : A.heap[g]? = some (.cells #[.bool true, .int .u32 d, v] 93 (0, 0))) (h : ∀ i, i ≠ g → some i ≠ v.ownBlock → i < A.heap.size → B.heap[i]? = A.heap[i]?)
    (hB : B.heap[g]? = some (.cells #[.bool true, .int .u32 d', v] 93 (0, 0))) : Kv g A B := fun v' e h' => by
  rw [hg] at h'
  have e : v = v' := by simp at h'; exact h'.2
  subst e
  exact ⟨h, d', hB⟩
/-- another state, another price -/
def stt (L : Nat → Array Value) (i : Nat) (s : Int) : Nat → Array Value := fun r => if r = i then (L r).setIfInBounds 25 (.int .u8 s) else L r
theorem N_stt {L : Nat → Array Value} {i : Nat} {x : Int} (r j : Nat) (hj : j ≠ 25) : N (stt L i x r) j = N (L r) j := by
  unfold stt
  split
  · unfold N; rw [Array.getElem?_setIfInBounds_ne (Ne.symm hj)]
  · rfl
theorem con_stt {L : Nat → Array Value} {i : Nat} {s : Int} (hL : ∀ i, IsCon (L i)) (hs : 0 ≤ s ∧ s ≤ 255) (r : Nat) : IsCon (stt L i s r) := by
  unfold stt
  split
  · have h := hL r
    refine ⟨by simp [h.size], ?_, IsN_of (by rw [Array.getElem?_setIfInBounds_self, if_pos (by rw [h.size]; omega)]) hs, ?_⟩
    · rw [extract_set_out (by omega)]; exact h.sp
    · have h1 := h.pr
      unfold IsN at h1 ⊢
      rw [show N ((L r).setIfInBounds 25 (.int .u8 s)) 26 = N (L r) 26 by unfold N; rw [Array.getElem?_setIfInBounds_ne (by omega)], Array.getElem?_setIfInBounds_ne (by omega)]
      exact h1
  · exact hL r
theorem Row.ne {w : World} {g k : Nat} {day : Int} {L : Nat → Array Value} {gb rc : Nat} {A : Array Value} (h : Row w g k day L gb rc A) : g ≠ gb := fun e => by
  have h1 := h.1; have h2 := h.2.1; rw [e, h2] at h1; injection h1 with h1; injection h1 with _ h1; exact absurd h1 (by decide)
/-- cell j of the contract at i is written -/
theorem cal_set {w w1 : World} {g base k i j : Nat} {day : Int} {L L' : Nat → Array Value} {gb rc : Nat} {A : Array Value} {u : Value} (h : CalIs w g base k day L) (hA : Row w g k day L gb rc A) (hbb : base ≤ gb) (hsz : A.size = rc * 27) (hkr : k ≤ rc) (hrc : rc ≤ 9223372036854775807) (htk : A.toList.take (k * 27) = flat L k)
    (hi : i < k) (hj : j < 27) (eL : L' = fun r => if r = i then (L r).setIfInBounds j u else L r) (hcon : ∀ r, IsCon (L' r)) (hN : ∀ r, N (L' r) 0 = N (L r) 0) (hb1 : Below w.heap.size w w1) :
    CalIs (w1.setCell ⟨gb, i * 27 + j, none⟩ u) g base k day L' ∧ Below base w (w1.setCell ⟨gb, i * 27 + j, none⟩ u) ∧ Kv g w (w1.setCell ⟨gb, i * 27 + j, none⟩ u) := by
  have hA1 := hA.kept hb1
  have hbw : base ≤ w.heap.size := by have := (Array.getElem?_eq_some_iff.1 hA.2.1).1; omega
  have hgb := hA.ne
  have hown : w1.ownsRow base 65 27 (.slice (some ⟨gb, 0, none⟩) k rc) k (flat L k) := ⟨flatc_len (fun i => (h.con i).size) k, .inr ⟨gb, rc, A, rfl, hbb, hA1.2.1, hkr, by unfold maxLen; omega, hsz, htk⟩⟩
  have hg1 := heap_set_other (g := gb) (i := i * 27 + j) (v := u) hA1.1 hgb
  refine ⟨⟨⟨_, hg1, ?_⟩, hcon, fun a c hac hc => by rw [hN, hN]; exact h.srt a c hac hc, h.bg, h.hk, h.hd⟩, below_set (hb1.mono hbw) hbb, Kv.of hA.1 (fun r hr hne hlt => ?_) hg1⟩
  · have hst := hown.stored (i * 27 + j) u
    rw [flat_set (c := 27) (fun i => (h.con i).size) _ k i j hi hj] at hst
    rw [eL]
    exact hst.1
  · have hrb : r ≠ gb := fun e => hne (by rw [e]; rfl)
    rw [heap_setCell_other w1 ⟨gb, i * 27 + j, none⟩ r _ hrb]
    exact hb1.block r hlt
/-- no such contract -/
theorem calive_out {w : World} {g base k : Nat} {day : Int} {L : Nat → Array Value} {n : Int} (h : CalIs w g base k day L) (hn : ∀ i, i < k → N (L i) 0 ≠ n) :
    Calls Try.prog 61 #[.pointer (some ⟨g, 0, none⟩), .int .u32 n] w fun e w' => e = .returned (.tuple #[.pointer none, .int .i64 7]) ∧ Below w.heap.size w w' := by
  have cr := Lib.hid (cready_yes h)
  have ca := Lib.hid (cat_out h hn)
  clear h hn
  go_enter Try.func61, Try.ntmps61
  go_wp2_with (first | (go_at_call 57; (with_reducible refine (cr.out).mono ?_); rintro e w1 ⟨rfl, rfl⟩) | (go_at_call 59; (with_reducible refine (ca.out).mono ?_); rintro e w1 ⟨i, _, rfl, hb⟩))
  go_ret2
  exact ⟨rfl, hb⟩
/-- one that is expired -/
theorem calive_gone {w : World} {g base k : Nat} {day : Int} {L : Nat → Array Value} {n : Int} {i : Nat} (h : CalIs w g base k day L) (hi : i < k) (hn : N (L i) 0 = n) (hs : N (L i) 25 = 3) :
    Calls Try.prog 61 #[.pointer (some ⟨g, 0, none⟩), .int .u32 n] w fun e w' => e = .returned (.tuple #[.pointer none, .int .i64 50]) ∧ Below w.heap.size w w' := by
  obtain ⟨gb, rc, A, hA, _⟩ := h.at_row (by omega)
  have cr := Lib.hid (cready_yes h)
  have ca := Lib.hid (cat_in h hi hn)
  have hk := h.hk
  have hst := (h.con i).st
  have hc25 : A[i * 27 + 25]? = some (.int .u8 3) := by rw [hA.cell hi (by omega), ← hs]; exact hst.u8.1
  have HA := Lib.hid hA
  clear h hA hn hst hs
  have hik : (i : Int) < k := by omega
  go_enter Try.func61, Try.ntmps61
  go_wp2_with (first | (go_at_call 57; (with_reducible refine (cr.out).mono ?_); rintro e w1 ⟨rfl, rfl⟩) | (go_at_call 59; (with_reducible refine (ca.out).mono ?_); rintro e w1 ⟨rfl, hb⟩; have h1 := HA.out.kept hb; have c1 := cellF h1.1; have c2 := cellF h1.2.1; clear h1))
  go_ret2
  exact ⟨rfl, hb⟩
theorem cget_out {w : World} {g base k : Nat} {day : Int} {L : Nat → Array Value} {n : Int} (h : CalIs w g base k day L) (hn : ∀ i, i < k → N (L i) 0 ≠ n) :
    Calls Try.prog 26 #[.pointer (some ⟨g, 0, none⟩), .int .u32 n] w fun e w' => e = .returned (.tuple #[.agg cz, .int .i64 7]) ∧ Below w.heap.size w w' := by
  have hb0 := below_new w (Obj.cells cz 65)
  have h1 := h.kept hb0
  have hc := heap_alloc_new w (Obj.cells cz 65)
  have cr := Lib.hid (cready_yes h1)
  have ca := Lib.hid (cat_out h1 hn)
  have HCZ := Lib.hid cz_size
  have HCA := Lib.hid cz_all
  clear h h1 hn
  go_enter Try.func26, Try.ntmps26
  go_wp2_with (first | ((with_reducible refine at_alloc 65 ?_); refine wpList_alloc_named rfl 65 rfl cz (by kernel_rfl) ?_) | (go_at_call 57; (with_reducible refine (cr.out).mono ?_); rintro e w1 ⟨rfl, rfl⟩) | (go_at_call 59; (with_reducible refine (ca.out).mono ?_); rintro e w1 ⟨i, _, rfl, hb⟩; have hc1 := Ytobokknfpjjdeaa.kept hb hc) | ((with_reducible refine at_build 65 ?_); refine wpList_build_named rfl 65 _ rfl cz (by kernel_rfl) ?_) | ((with_reducible refine at_store 65 ?_); refine wpList_store_over rfl 65 _ _ rfl (w.heap.size) (cz) rfl rfl _ _ (hc1) (by rw [HCZ.out]; kernel_rfl) (rfl) (HCA.out) ?_; intro w3 hg3 hs3 ho3 hb3))
  exact post_cell_tmp (g := w.heap.size) (t := 65) (v := .int .i64 7) rfl rfl rfl rfl hg3 Try.underlying65 rfl (by rw [HCZ.out]; kernel_rfl) ⟨rfl, (below_then hb0 hb).trans (hb3 _ (Nat.le_refl _))⟩
theorem cnext_any {w : World} {g base k : Nat} {day : Int} {L : Nat → Array Value} (h : CalIs w g base k day L) :
    Calls Try.prog 30 #[.pointer (some ⟨g, 0, none⟩)] w fun e w' => (day = 4294967295 ∧ e = .returned (.int .i64 6) ∧ Below w.heap.size w w') ∨ (day ≠ 4294967295 ∧ e = .returned (.int .i64 0) ∧ CalIs w' g base k (day + 1) L ∧ Below base w w' ∧ Kv g w w') := by
  have cr := Lib.hid (cready_yes h)
  obtain ⟨v, hg, hrow⟩ := h.row
  have cg := cellF hg
  have fg := (cells_of hg).2.1
  have hd := h.hd
  have HC := Lib.hid h
  have HG := Lib.hid hg
  have HROW := Lib.hid hrow
  clear h hg hrow
  by_cases hm : day = 4294967295
  · subst hm
    go_enter Try.func30, Try.ntmps30
    go_wp2_with ((go_at_call 57; (with_reducible refine (cr.out).mono ?_); rintro e w1 ⟨rfl, rfl⟩))
    go_ret
    exact .inl ⟨trivial, rfl, Below.refl _ _⟩
  · go_enter Try.func30, Try.ntmps30
    go_wp2_with ((go_at_call 57; (with_reducible refine (cr.out).mono ?_); rintro e w1 ⟨rfl, rfl⟩))
    go_ret
    have hs := heap_set (i := 1) (v := .int .u32 (day + 1)) HG.out
    refine .inr ⟨hm, rfl, ⟨⟨v, hs, ?_⟩, HC.out.con, HC.out.srt, HC.out.bg, HC.out.hk, ⟨by omega, by omega⟩⟩, below_set (Below.refl _ _) HC.out.bg, Kv.of HG.out (fun i hi _ _ => heap_setCell_other w ⟨g, 1, none⟩ i _ hi) hs⟩
    refine ownsRow_setCell_other HROW.out (fun e => ?_) _
    obtain ⟨A, fr, h9⟩ := own_tag HROW.out _ e
    rw [show w.heap[(⟨g, 1, none⟩ : Addr).block]? = w.heap[g]? from rfl, HG.out] at h9
    injection h9 with h9; injection h9 with _ h9; exact absurd h9 (by decide)
end Go.Proofs.Ytobokknfpjjdeaa
