/- The document's calendar: the next day, Get, Halt, Publish. Condition: the calendar is one. -/
import Derived.Test.YtobokknfpjjdeaaRc05
namespace Go.Proofs.Ytobokknfpjjdeaa
set_option linter.unusedVariables false
set_option linter.unusedSimpArgs false
open Go.RowKit

/-- what a call leaves of the document's calendar -/
def RKept (g base k : Nat) (day : Int) (L : Nat → Array Value) (v : Value) (w w' : World) : Prop := RIs w' g base k day L v ∧ Below base w w' ∧ Kr g v w w'
theorem RKept.same {w w' : World} {g base k : Nat} {day : Int} {L : Nat → Array Value} {v : Value} (h : RIs w g base k day L v) (hb : Below w.heap.size w w') : RKept g base k day L v w w' :=
  ⟨h.kept hb, hb.mono (by have := h.bg; have := (Array.getElem?_eq_some_iff.1 h.row).1; omega), kr_below hb⟩
/-- cell j of the contract at i is written -/
theorem rcal_set {w w1 : World} {g base k i j : Nat} {day : Int} {L L' : Nat → Array Value} {gb rc : Nat} {A : Array Value} {u : Value} (h : RIs w g base k day L (.slice (some ⟨gb, 0, none⟩) k rc)) (hA : RRow w k L gb rc A) (hbb : base ≤ gb) (hsz : A.size = rc * 27) (hkr : k ≤ rc) (hrc : rc ≤ 9223372036854775807) (htk : A.toList.take (k * 27) = flat L k)
    (hi : i < k) (hj : j < 27) (eL : L' = fun r => if r = i then (L r).setIfInBounds j u else L r) (hcon : ∀ r, IsCon (L' r)) (hN : ∀ r, N (L' r) 0 = N (L r) 0) (hb1 : Below w.heap.size w w1) :
    RKept g base k day L' (.slice (some ⟨gb, 0, none⟩) k rc) w (w1.setCell ⟨gb, i * 27 + j, none⟩ u) := by
  have hbw : base ≤ w.heap.size := by have := (Array.getElem?_eq_some_iff.1 hA.blk).1; omega
  have hgb : g ≠ gb := fun e => by
    have h1 := h.row; have h2 := hA.blk
    rw [e, h2] at h1; injection h1 with h1; injection h1 with _ h1; exact absurd h1 (by decide)
  have hb1A := Ytobokknfpjjdeaa.kept hb1 hA.blk
  have hown : w1.ownsRow base 65 27 (.slice (some ⟨gb, 0, none⟩) k rc) k (flat L k) := ⟨flatc_len (fun i => (h.con i).size) k, .inr ⟨gb, rc, A, rfl, hbb, hb1A, hkr, by unfold maxLen; omega, hsz, htk⟩⟩
  have hg1 := heap_set_other (g := gb) (i := i * 27 + j) (v := u) (Ytobokknfpjjdeaa.kept hb1 h.row) hgb
  refine ⟨⟨hg1, ?_, h.bg, hcon, fun a c hac hc => by rw [hN, hN]; exact h.srt a c hac hc, h.hk, h.hd⟩, below_set (hb1.mono hbw) hbb, fun r hr hne hlt => ?_⟩
  · have hst := hown.stored (i * 27 + j) u
    rw [flat_set (c := 27) (fun i => (h.con i).size) _ k i j hi hj] at hst
    rw [eL]
    exact hst.1
  · have hrb : r ≠ gb := fun e => hne (by rw [e]; rfl)
    rw [heap_setCell_other w1 ⟨gb, i * 27 + j, none⟩ r _ hrb]
    exact hb1.block r hlt
theorem rhalt_out {w : World} {g base k : Nat} {day : Int} {L : Nat → Array Value} {v : Value} {n : Int} (on : Bool) (h : RIs w g base k day L v) (hn : ∀ i, i < k → N (L i) 0 ≠ n) :
    Calls Try.prog 39 #[.pointer (some ⟨g, 0, none⟩), .int .u32 n, .bool on] w fun e w' => e = .returned (.int .i64 7) ∧ w = w' := by
  have cp := Lib.hid (ralive_out h hn)
  clear h hn
  go_enter Try.func39, Try.ntmps39
  go_wp2_with ((go_at_call 71; (with_reducible refine (cp.out).mono ?_); rintro e w1 ⟨rfl, rfl⟩))
  go_ret
  exact ⟨rfl, rfl⟩
theorem rpub_out {w : World} {g base k : Nat} {day : Int} {L : Nat → Array Value} {v : Value} {n : Int} (x : Int) (h : RIs w g base k day L v) (hn : ∀ i, i < k → N (L i) 0 ≠ n) :
    Calls Try.prog 40 #[.pointer (some ⟨g, 0, none⟩), .int .u32 n, .int .i64 x] w fun e w' => e = .returned (.int .i64 7) ∧ w = w' := by
  have cp := Lib.hid (ralive_out h hn)
  clear h hn
  go_enter Try.func40, Try.ntmps40
  go_wp2_with ((go_at_call 71; (with_reducible refine (cp.out).mono ?_); rintro e w1 ⟨rfl, rfl⟩))
  go_ret
  exact ⟨rfl, rfl⟩
theorem ralive_gone {w : World} {g base k : Nat} {day : Int} {L : Nat → Array Value} {v : Value} {n : Int} {i : Nat} (h : RIs w g base k day L v) (hi : i < k) (hn : N (L i) 0 = n) (hs : N (L i) 25 = 3) :
    Calls Try.prog 71 #[.pointer (some ⟨g, 0, none⟩), .int .u32 n] w fun e w' => e = .returned (.tuple #[.int .i64 0, .int .i64 50]) ∧ w = w' :=
  (ralive_in h hi hn).mono fun e w' ⟨h1, h2⟩ => ⟨by rw [h1, if_pos hs], h2⟩
theorem ralive_yes {w : World} {g base k : Nat} {day : Int} {L : Nat → Array Value} {v : Value} {n : Int} {i : Nat} (h : RIs w g base k day L v) (hi : i < k) (hn : N (L i) 0 = n) (hs : N (L i) 25 ≠ 3) :
    Calls Try.prog 71 #[.pointer (some ⟨g, 0, none⟩), .int .u32 n] w fun e w' => e = .returned (.tuple #[.int .i64 i, .int .i64 0]) ∧ w = w' :=
  (ralive_in h hi hn).mono fun e w' ⟨h1, h2⟩ => ⟨by rw [h1, if_neg hs], h2⟩
theorem rhalt_gone {w : World} {g base k : Nat} {day : Int} {L : Nat → Array Value} {v : Value} {n : Int} {i : Nat} (on : Bool) (h : RIs w g base k day L v) (hi : i < k) (hn : N (L i) 0 = n) (hs : N (L i) 25 = 3) :
    Calls Try.prog 39 #[.pointer (some ⟨g, 0, none⟩), .int .u32 n, .bool on] w fun e w' => e = .returned (.int .i64 50) ∧ w = w' := by
  have cp := Lib.hid (ralive_gone h hi hn hs)
  clear h hn hs
  go_enter Try.func39, Try.ntmps39
  go_wp2_with ((go_at_call 71; (with_reducible refine (cp.out).mono ?_); rintro e w1 ⟨rfl, rfl⟩))
  go_ret
  exact ⟨rfl, rfl⟩
theorem rpub_gone {w : World} {g base k : Nat} {day : Int} {L : Nat → Array Value} {v : Value} {n : Int} {i : Nat} (x : Int) (h : RIs w g base k day L v) (hi : i < k) (hn : N (L i) 0 = n) (hs : N (L i) 25 = 3) :
    Calls Try.prog 40 #[.pointer (some ⟨g, 0, none⟩), .int .u32 n, .int .i64 x] w fun e w' => e = .returned (.int .i64 50) ∧ w = w' := by
  have cp := Lib.hid (ralive_gone h hi hn hs)
  clear h hn hs
  go_enter Try.func40, Try.ntmps40
  go_wp2_with ((go_at_call 71; (with_reducible refine (cp.out).mono ?_); rintro e w1 ⟨rfl, rfl⟩))
  go_ret
  exact ⟨rfl, rfl⟩
set_option maxHeartbeats 1000000 in
theorem rhalt_set {w : World} {g base k : Nat} {day : Int} {L : Nat → Array Value} {v : Value} {n : Int} {i : Nat} (on : Bool) (h : RIs w g base k day L v) (hi : i < k) (hn : N (L i) 0 = n) (hs : N (L i) 25 ≠ 3) :
    Calls Try.prog 39 #[.pointer (some ⟨g, 0, none⟩), .int .u32 n, .bool on] w fun e w' => e = .returned (.int .i64 0) ∧ RKept g base k day (stt L i (if on then 2 else 1)) v w w' := by
  have cp := Lib.hid (ralive_yes h hi hn hs)
  obtain ⟨gb, rc, A, rfl, hA, hbb, hsz, hkr, hrc, htk⟩ := h.at_row (by omega)
  have hk := h.hk
  have cg := cellF h.row
  obtain ⟨cb, fb, lb⟩ := cells_of hA.blk
  have hc25 : A[i * 27 + 25]? = some (.int .u8 (N (L i) 25)) := by rw [hA.cell hi (by omega)]; exact (h.con i).st.u8.1
  have hik : (i : Int) < k := by omega
  have HF := Lib.hid (fun (s : Int) (hs : 0 ≤ s ∧ s ≤ 255) => rcal_set (L' := stt L i s) (u := .int .u8 s) h hA hbb hsz hkr hrc htk hi (show 25 < 27 by omega) rfl (con_stt h.con hs) (fun r => N_stt r 0 (by decide)) (Below.refl _ w))
  clear h hA hn hs htk hsz
  cases on
  · go_enter Try.func39, Try.ntmps39
    go_wp2_with ((go_at_call 71; (with_reducible refine (cp.out).mono ?_); rintro e w1 ⟨rfl, rfl⟩))
    go_ret
    exact ⟨rfl, HF.out 1 (by decide)⟩
  · go_enter Try.func39, Try.ntmps39
    go_wp2_with ((go_at_call 71; (with_reducible refine (cp.out).mono ?_); rintro e w1 ⟨rfl, rfl⟩))
    go_ret
    exact ⟨rfl, HF.out 2 (by decide)⟩
set_option maxHeartbeats 1000000 in
theorem rnext_any {w : World} {g base k : Nat} {day : Int} {L : Nat → Array Value} {v : Value} (h : RIs w g base k day L v) :
    Calls Try.prog 37 #[.pointer (some ⟨g, 0, none⟩)] w fun e w' => (day = 4294967295 ∧ e = .returned (.int .i64 6) ∧ w = w') ∨ (day ≠ 4294967295 ∧ e = .returned (.int .i64 0) ∧ RKept g base k (day + 1) L v w w') := by
  obtain ⟨cg, fg, lg⟩ := cells_of h.row
  have hd := h.hd
  have HC := Lib.hid h
  clear h
  by_cases hm : day = 4294967295
  · subst hm
    go_enter Try.func37, Try.ntmps37
    go_wp2
    go_ret
    exact .inl ⟨trivial, rfl, rfl⟩
  · go_enter Try.func37, Try.ntmps37
    go_wp2
    go_ret
    have hs := heap_set (i := 0) (v := .int .u32 (day + 1)) HC.out.row
    refine .inr ⟨hm, rfl, ⟨hs, ?_, HC.out.bg, HC.out.con, HC.out.srt, HC.out.hk, ⟨by omega, by omega⟩⟩, below_set (Below.refl _ _) HC.out.bg, fun i hi _ _ => heap_setCell_other w ⟨g, 0, none⟩ i _ hi⟩
    refine ownsRow_setCell_other HC.out.own (fun e => ?_) _
    obtain ⟨A, fr, h9⟩ := own_tag HC.out.own _ e
    rw [show w.heap[(⟨g, 0, none⟩ : Addr).block]? = w.heap[g]? from rfl, HC.out.row] at h9
    injection h9 with h9; injection h9 with _ h9; exact absurd h9 (by decide)
set_option maxRecDepth 100000 in
set_option maxHeartbeats 1000000 in
theorem rpub_bad {w : World} {g base k : Nat} {day : Int} {L : Nat → Array Value} {v : Value} {n : Int} {i : Nat} (x : Int) (h : RIs w g base k day L v) (hi : i < k) (hn : N (L i) 0 = n) (hs : N (L i) 25 ≠ 3) (hx : F64 x) (hp : ipB ((L i).extract 0 25) x = false) :
    Calls Try.prog 40 #[.pointer (some ⟨g, 0, none⟩), .int .u32 n, .int .i64 x] w fun e w' => e = .returned (.int .i64 52) ∧ Below w.heap.size w w' := by
  have cp := Lib.hid (ralive_yes h hi hn hs)
  obtain ⟨gb, rc, A, rfl, hA, hbb, hsz, hkr, hrc, htk⟩ := h.at_row (by omega)
  have hk := h.hk
  have cg := cellF h.row
  have cgr := Lib.hid h.row
  obtain ⟨cb, fb, lb⟩ := cells_of hA.blk
  have HBK := Lib.hid hA.blk
  have hex : A.extract (i * 27) (i * 27 + 25) = (L i).extract 0 25 := by
    have h1 := (hA.at_ i hi).2
    have h2 := congrArg (fun B : Array Value => B.extract 0 25) h1
    simp only [Array.extract_extract] at h2
    rw [show min (i * 27 + 25) (i * 27 + 27) = i * 27 + 25 by omega] at h2
    simpa using h2
  have HX := Lib.hid hex
  have HZ := Lib.hid (show i * 27 + 27 ≤ A.size from (hA.at_ i hi).1)
  have cq := Lib.hid (fun w1 => risprice_any ((L i).extract 0 25) x w1 (h.con i).sp hx)
  rw [hp] at cq
  have hik : (i : Int) < k := by omega
  have hlt26 : A[i * 27 + 26]? = some (A[i * 27 + 26]'(by have := HZ.out; omega)) := Array.getElem?_eq_getElem _
  obtain ⟨v26, hv26⟩ : ∃ v, A[i * 27 + 26]? = some v := ⟨_, hlt26⟩
  have HF := Lib.hid (fun (w1 : World) (hb1 : Below w.heap.size w w1) => rcal_set (L' := pr L i x) (u := .int .i64 x) h hA hbb hsz hkr hrc htk hi (show 26 < 27 by omega) rfl (con_pr h.con hx) (fun r => N_pr r 0 (by decide)) hb1)
  have HBL := hA.blk
  clear h hA hn hs hex htk hp hlt26
  go_enter Try.func40, Try.ntmps40
  go_wp2_with (first | (go_at_call 71; (with_reducible refine (cp.out).mono ?_); rintro e w1 ⟨rfl, rfl⟩) | ((with_reducible refine at_load 61 ?_); refine wpList_load_part rfl 61 _ rfl (gb) (i * 27) rfl _ (A) _ _ 25 (HBL) Try.underlying61 rfl (by kernel_rfl) (by have := HZ.out; omega) ((L i).extract 0 25) (HX.out) ?_) | (go_at_call 65; (with_reducible refine (cq.out _).mono ?_); rintro e w2 ⟨rfl, hb2⟩))
  go_ret
  exact ⟨rfl, hb2⟩
set_option maxRecDepth 100000 in
set_option maxHeartbeats 1000000 in
theorem rpub_set {w : World} {g base k : Nat} {day : Int} {L : Nat → Array Value} {v : Value} {n : Int} {i : Nat} (x : Int) (h : RIs w g base k day L v) (hi : i < k) (hn : N (L i) 0 = n) (hs : N (L i) 25 ≠ 3) (hx : F64 x) (hp : ipB ((L i).extract 0 25) x = true) :
    Calls Try.prog 40 #[.pointer (some ⟨g, 0, none⟩), .int .u32 n, .int .i64 x] w fun e w' => e = .returned (.int .i64 0) ∧ RKept g base k day (pr L i x) v w w' := by
  have cp := Lib.hid (ralive_yes h hi hn hs)
  obtain ⟨gb, rc, A, rfl, hA, hbb, hsz, hkr, hrc, htk⟩ := h.at_row (by omega)
  have hk := h.hk
  have cg := cellF h.row
  have cgr := Lib.hid h.row
  obtain ⟨cb, fb, lb⟩ := cells_of hA.blk
  have HBK := Lib.hid hA.blk
  have hex : A.extract (i * 27) (i * 27 + 25) = (L i).extract 0 25 := by
    have h1 := (hA.at_ i hi).2
    have h2 := congrArg (fun B : Array Value => B.extract 0 25) h1
    simp only [Array.extract_extract] at h2
    rw [show min (i * 27 + 25) (i * 27 + 27) = i * 27 + 25 by omega] at h2
    simpa using h2
  have HX := Lib.hid hex
  have HZ := Lib.hid (show i * 27 + 27 ≤ A.size from (hA.at_ i hi).1)
  have cq := Lib.hid (fun w1 => risprice_any ((L i).extract 0 25) x w1 (h.con i).sp hx)
  rw [hp] at cq
  have hik : (i : Int) < k := by omega
  have hlt26 : A[i * 27 + 26]? = some (A[i * 27 + 26]'(by have := HZ.out; omega)) := Array.getElem?_eq_getElem _
  obtain ⟨v26, hv26⟩ : ∃ v, A[i * 27 + 26]? = some v := ⟨_, hlt26⟩
  have HF := Lib.hid (fun (w1 : World) (hb1 : Below w.heap.size w w1) => rcal_set (L' := pr L i x) (u := .int .i64 x) h hA hbb hsz hkr hrc htk hi (show 26 < 27 by omega) rfl (con_pr h.con hx) (fun r => N_pr r 0 (by decide)) hb1)
  have HBL := hA.blk
  clear h hA hn hs hex htk hp hlt26
  go_enter Try.func40, Try.ntmps40
  go_wp2_with (first | (go_at_call 71; (with_reducible refine (cp.out).mono ?_); rintro e w1 ⟨rfl, rfl⟩) | ((with_reducible refine at_load 61 ?_); refine wpList_load_part rfl 61 _ rfl (gb) (i * 27) rfl _ (A) _ _ 25 (HBL) Try.underlying61 rfl (by kernel_rfl) (by have := HZ.out; omega) ((L i).extract 0 25) (HX.out) ?_) | (go_at_call 65; (with_reducible refine (cq.out _).mono ?_); rintro e w2 ⟨rfl, hb2⟩; have cg2 := cellF (Ytobokknfpjjdeaa.kept hb2 cgr.out); have hg3 := Ytobokknfpjjdeaa.kept hb2 HBK.out; have c3 := cellF hg3; have f3 := (cells_of hg3).2.1))
  go_ret
  exact ⟨rfl, HF.out _ hb2⟩
set_option maxRecDepth 100000 in
theorem rget_out {w : World} {g base k : Nat} {day : Int} {L : Nat → Array Value} {v : Value} {n : Int} (h : RIs w g base k day L v) (hn : ∀ i, i < k → N (L i) 0 ≠ n) :
    Calls Try.prog 45 #[.pointer (some ⟨g, 0, none⟩), .int .u32 n] w fun e w' => e = .returned (.tuple #[.agg cz, .int .i64 7]) ∧ Below w.heap.size w w' := by
  have hb0 := below_new w (Obj.cells cz 65)
  have hc := heap_alloc_new w (Obj.cells cz 65)
  have cp := Lib.hid (rplace_out (h.kept hb0) hn)
  have HCZ := Lib.hid cz_size
  have HCA := Lib.hid cz_all
  clear h hn
  go_enter Try.func45, Try.ntmps45
  go_wp2_with (first | ((with_reducible refine at_alloc 65 ?_); refine wpList_alloc_named rfl 65 rfl cz (by kernel_rfl) ?_) | (go_at_call 70; (with_reducible refine (cp.out).mono ?_); rintro e w1 ⟨rfl, rfl⟩) | ((with_reducible refine at_build 65 ?_); refine wpList_build_named rfl 65 _ rfl cz (by kernel_rfl) ?_) | ((with_reducible refine at_store 65 ?_); refine wpList_store_over rfl 65 _ _ rfl (w.heap.size) (cz) rfl rfl _ _ (hc) (by rw [HCZ.out]; kernel_rfl) (rfl) (HCA.out) ?_; intro w3 hg3 hs3 ho3 hb3))
  exact post_cell_tmp (g := w.heap.size) (t := 65) (v := .int .i64 7) rfl rfl rfl rfl hg3 Try.underlying65 rfl (by rw [HCZ.out]; kernel_rfl) ⟨rfl, hb0.trans (hb3 _ (Nat.le_refl _))⟩
set_option maxRecDepth 100000 in
theorem rget_in {w : World} {g base k : Nat} {day : Int} {L : Nat → Array Value} {v : Value} {n : Int} {i : Nat} (h : RIs w g base k day L v) (hi : i < k) (hn : N (L i) 0 = n) :
    Calls Try.prog 45 #[.pointer (some ⟨g, 0, none⟩), .int .u32 n] w fun e w' => e = .returned (.tuple #[.agg (L i), .int .i64 0]) ∧ Below w.heap.size w w' := by
  have hb0 := below_new w (Obj.cells cz 65)
  have h1 := h.kept hb0
  have hc := heap_alloc_new w (Obj.cells cz 65)
  have cp := Lib.hid (rplace_in h1 hi hn)
  obtain ⟨gb, rc, A, rfl, hA, hbb, hsz, hkr, hrc, htk⟩ := h1.at_row (by omega)
  have hk := h1.hk
  have cg := cellF h1.row
  have HBL := hA.blk
  have HX := Lib.hid (hA.at_ i hi)
  have HZ := Lib.hid (h.con i).size
  have HC := Lib.hid (h.con i).all
  have HCZ := Lib.hid cz_size
  have hik : (i : Int) < k := by omega
  have hi0 : ¬ (i : Int) < 0 := by omega
  clear h h1 hA hn htk
  go_enter Try.func45, Try.ntmps45
  go_wp2_with (first | ((with_reducible refine at_alloc 65 ?_); refine wpList_alloc_named rfl 65 rfl cz (by kernel_rfl) ?_) | (go_at_call 70; (with_reducible refine (cp.out).mono ?_); rintro e w1 ⟨rfl, rfl⟩) | ((with_reducible refine at_load 65 ?_); refine wpList_load_part rfl 65 _ rfl (gb) (i * 27) rfl _ (A) _ _ 27 (HBL) Try.underlying65 rfl (by kernel_rfl) (HX.out.1) (L i) (HX.out.2) ?_) | ((with_reducible refine at_store 65 ?_); refine wpList_store_over rfl 65 _ _ rfl (w.heap.size) (L i) rfl rfl _ _ (hc) (by rw [HZ.out]; kernel_rfl) (by rw [HZ.out]; exact HCZ.out) (HC.out) ?_; intro w3 hg3 hs3 ho3 hb3))
  exact post_cell_tmp (g := w.heap.size) (t := 65) (v := .int .i64 0) rfl rfl rfl rfl hg3 Try.underlying65 rfl (by rw [HZ.out]; kernel_rfl) ⟨rfl, hb0.trans (hb3 _ (Nat.le_refl _))⟩
theorem rdue_out {w : World} {g base k : Nat} {day : Int} {L : Nat → Array Value} {v : Value} {n : Int} (h : RIs w g base k day L v) (hn : ∀ i, i < k → N (L i) 0 ≠ n) :
    Calls Try.prog 41 #[.pointer (some ⟨g, 0, none⟩), .int .u32 n] w fun e w' => e = .returned (.int .i64 7) ∧ w = w' := by
  have cp := Lib.hid (ralive_out h hn)
  clear h hn
  go_enter Try.func41, Try.ntmps41
  go_wp2_with ((go_at_call 71; (with_reducible refine (cp.out).mono ?_); rintro e w1 ⟨rfl, rfl⟩))
  go_ret
  exact ⟨rfl, rfl⟩
theorem rdue_gone {w : World} {g base k : Nat} {day : Int} {L : Nat → Array Value} {v : Value} {n : Int} {i : Nat} (h : RIs w g base k day L v) (hi : i < k) (hn : N (L i) 0 = n) (hs : N (L i) 25 = 3) :
    Calls Try.prog 41 #[.pointer (some ⟨g, 0, none⟩), .int .u32 n] w fun e w' => e = .returned (.int .i64 50) ∧ w = w' := by
  have cp := Lib.hid (ralive_gone h hi hn hs)
  clear h hn hs
  go_enter Try.func41, Try.ntmps41
  go_wp2_with ((go_at_call 71; (with_reducible refine (cp.out).mono ?_); rintro e w1 ⟨rfl, rfl⟩))
  go_ret
  exact ⟨rfl, rfl⟩
end Go.Proofs.Ytobokknfpjjdeaa
