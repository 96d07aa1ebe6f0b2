/- The document's net: Twice and Take, where the place is there. Condition: the net is one. -/
import Derived.Test.YtfgcjgabknoamaaRs28
import Derived.Test.YtfgcjgabknoamaaTakeO28
import Derived.Test.YtfgcjgabknoamaaTake
namespace Go.Proofs.Ytfgcjgabknoamaa
set_option linter.unusedVariables false
set_option linter.unusedSimpArgs false
open Go.RowKit

set_option maxRecDepth 100000 in
theorem rtwice_in {w : World} {g base k : Nat} {now : Int} {F T At : Nat → Int} {S : Nat → Value} {Ln : Nat → Nat} {X : Nat → Nat → Int} {v : Value} (i : Nat) (h : RNet w g base k now F T At S Ln X v) (hi : i < k) (hk : k < 2000) :
    Calls Try.prog 20 #[.pointer (some ⟨g, 0, none⟩), .int .i64 i] w fun e w' => ∃ s v' : Value, e = .returned (.int .i64 0) ∧ RNet w' g base (k + 1) now (fun j => if j = k then F i else F j) (fun j => if j = k then T i else T j) (fun j => if j = k then now else At j) (fun j => if j = k then s else S j) (fun j => if j = k then Ln i else Ln j) (fun j => if j = k then X i else X j) v' ∧ Below base w w' ∧ Kd g w w' ∧ (∀ q, v'.ownBlock = some q → w.heap.size ≤ q) ∧ Fr w.heap.size s := by
  have ca := rthere_any (i : Int) h
  have hk2 := h.hk
  rw [decide_eq_true (show 0 ≤ (i : Int) ∧ (i : Int) < k by omega)] at ca
  have HN := Lib.hid h
  obtain ⟨ra, rc, rfl, hR, _⟩ := own_rows (c := 4) (fun i => rfl) h.own
  obtain ⟨gb, off, A, fr, rfl, hgA, hszA, hexA⟩ := hR i hi
  have hex : A.extract (off + i * 4) (off + i * 4 + 4) = p4 (F i) (T i) (S i) (At i) := hexA
  obtain ⟨sa, sc, hS, hv1, _, hv3, _⟩ := id (h.by_ i hi)
  have hby := h.by_ i hi
  have hln := h.lg i hi
  rw [hS] at hex hby
  have HX := Lib.hid (show A.extract (off + i * 4) (off + i * 4 + 3) = m3 (F i) (T i) (.slice sa (Ln i) sc) from by
    have h := congrArg (fun B : Array Value => B.extract 0 3) hex
    simp only [Array.extract_extract] at h
    rw [show min (off + i * 4 + 3) (off + i * 4 + 4) = off + i * 4 + 3 by omega] at h
    exact h)
  have hik : (i : Int) < k := by omega
  have cg := cellF h.row
  have CS := Lib.hid (rsend_ok (F i) (T i) sa (Ln i) sc (X i) h hby.byt hv3 hln hk)
  clear h hR hex hexA hby hS hv1
  generalize m3 (F i) (T i) (.slice sa (Ln i) sc) = M at *
  go_enter Try.func20, Try.ntmps20
  go_wp2_with (first | (go_at_call 31; (with_reducible refine (ca).mono ?_); rintro e w1 ⟨rfl, rfl⟩) | ((with_reducible refine at_load 24 ?_); refine wpList_load_part rfl 24 _ rfl (gb) (off + i * 4) rfl _ (A) _ _ 3 (hgA) Try.underlying24 rfl (by kernel_rfl) (by omega) (M) (HX.out) ?_) | (go_at_call 17; (with_reducible refine (CS.out).mono ?_); rintro e w2 ⟨s, v2, rfl, hr2⟩))
  go_ret
  exact ⟨s, v2, rfl, hr2⟩
set_option maxRecDepth 100000 in
theorem rtwice_full {w : World} {g base k : Nat} {now : Int} {F T At : Nat → Int} {S : Nat → Value} {Ln : Nat → Nat} {X : Nat → Nat → Int} {v : Value} (i : Nat) (h : RNet w g base k now F T At S Ln X v) (hi : i < k) (hk : 2000 ≤ k) :
    Calls Try.prog 20 #[.pointer (some ⟨g, 0, none⟩), .int .i64 i] w fun e w' => e = .returned (.int .i64 9) ∧ Below w.heap.size w w' := by
  have ca := rthere_any (i : Int) h
  have hk2 := h.hk
  rw [decide_eq_true (show 0 ≤ (i : Int) ∧ (i : Int) < k by omega)] at ca
  have HN := Lib.hid h
  obtain ⟨ra, rc, rfl, hR, _⟩ := own_rows (c := 4) (fun i => rfl) h.own
  obtain ⟨gb, off, A, fr, rfl, hgA, hszA, hexA⟩ := hR i hi
  have hex : A.extract (off + i * 4) (off + i * 4 + 4) = p4 (F i) (T i) (S i) (At i) := hexA
  obtain ⟨sa, sc, hS, hv1, _, hv3, _⟩ := id (h.by_ i hi)
  have hby := h.by_ i hi
  have hln := h.lg i hi
  rw [hS] at hex hby
  have HX := Lib.hid (show A.extract (off + i * 4) (off + i * 4 + 3) = m3 (F i) (T i) (.slice sa (Ln i) sc) from by
    have h := congrArg (fun B : Array Value => B.extract 0 3) hex
    simp only [Array.extract_extract] at h
    rw [show min (off + i * 4 + 3) (off + i * 4 + 4) = off + i * 4 + 3 by omega] at h
    exact h)
  have hik : (i : Int) < k := by omega
  have cg := cellF h.row
  have CS := Lib.hid (rsend_full (F i) (T i) sa (Ln i) sc h hln hk)
  clear h hR hex hexA hby hS hv1
  generalize m3 (F i) (T i) (.slice sa (Ln i) sc) = M at *
  go_enter Try.func20, Try.ntmps20
  go_wp2_with (first | (go_at_call 31; (with_reducible refine (ca).mono ?_); rintro e w1 ⟨rfl, rfl⟩) | ((with_reducible refine at_load 24 ?_); refine wpList_load_part rfl 24 _ rfl (gb) (off + i * 4) rfl _ (A) _ _ 3 (hgA) Try.underlying24 rfl (by kernel_rfl) (by omega) (M) (HX.out) ?_) | (go_at_call 17; (with_reducible refine (CS.out).mono ?_); rintro e w2 ⟨rfl, hb2⟩))
  go_ret
  exact ⟨rfl, hb2⟩
theorem flat_skR {F T At : Nat → Int} {S : Nat → Value} {i k : Nat} (hi : i < k) : flat (fun j => p4 (F j) (T j) (S j) (At j)) i ++ flat (fun j => (fun j => p4 (F j) (T j) (S j) (At j)) (i + 1 + j)) (k - (i + 1)) = flat (fun j => p4 (sk F i j) (sk T i j) (sk S i j) (sk At i j)) (k - 1) := by
  obtain ⟨m, rfl⟩ : ∃ m, k = i + 1 + m := ⟨k - (i + 1), by omega⟩
  rw [show i + 1 + m - (i + 1) = m by omega, show i + 1 + m - 1 = i + m by omega, flat_addP]
  congr 1
  · exact flat_congr _ fun j hj => by unfold sk; simp only [hj, if_true]
  · refine flat_congr _ fun j _ => ?_
    unfold sk
    rw [if_neg (by omega), if_neg (by omega), if_neg (by omega), if_neg (by omega), show i + j + 1 = i + 1 + j by omega]
theorem rtake_fin {w wC w5 : World} {g base k i : Nat} {now : Int} {F T At : Nat → Int} {S : Nat → Value} {Ln : Nat → Nat} {X : Nat → Nat → Int} {v v9 : Value} (h : RNet w g base k now F T At S Ln X v) (hi : i < k) {b : Nat} (hC : Below w.heap.size w wC) (hb : w.heap.size ≤ b)
    (ho : wC.ownsRow b 65 4 v9 (k - 1) (flat (fun j => p4 (sk F i j) (sk T i j) (sk S i j) (sk At i j)) (k - 1)))
    (hbm : ∃ A, wC.heap[w.heap.size]? = some (.cells A 24 (0, 0))) (ho5 : ∀ j, j ≠ w.heap.size → w5.heap[j]? = (wC.setCell ⟨g, 0, none⟩ v9).heap[j]?) (hb5 : Below w.heap.size (wC.setCell ⟨g, 0, none⟩ v9) w5) :
    RNet w5 g base (k - 1) now (sk F i) (sk T i) (sk At i) (sk S i) (sk Ln i) (sk X i) v9 ∧ (∀ j, j < k → BytT w5 (S j) (Ln j) (X j)) ∧ Below base w w5 ∧ Kd g w w5 ∧ ∀ q, v9.ownBlock = some q → w.heap.size ≤ q := by
  obtain ⟨A0, hm⟩ := hbm
  have hg := h.row
  have hgl := (Array.getElem?_eq_some_iff.1 hg).1
  have hbg := h.bg
  have hgC := Ytfgcjgabknoamaa.kept hC hg
  have hby : ∀ j, j < k → BytT w5 (S j) (Ln j) (X j) := fun j hj => by
    refine (((h.by_ j hj).kept hC).set (g := g) (i := 0) (u := v9) hgC (by decide)).apart (fun b A fr hb => ho5 b (fun e => ?_))
    subst e
    have h1 := heap_set_other (g := g) (i := 0) (v := v9) hm (by omega)
    rw [hb] at h1; injection h1 with h1; injection h1 with _ h1; exact absurd h1 (by decide)
  have hrow := heap_set (i := 0) (v := v9) hgC
  refine ⟨⟨(ho5 g (by omega)).trans hrow, ?_, fun j hj => ?_, fun j => ?_, hbg, fun j hj => ?_, h.hn, fun j hj => ?_, by have := h.hk; omega⟩, hby, ?_, fun j hj hlt => ?_, fun q e => Nat.le_trans hb (ho.lt q e).1⟩
  · have h1 : (wC.setCell ⟨g, 0, none⟩ v9).ownsRow base 65 4 v9 (k - 1) (flat (fun j => p4 (sk F i j) (sk T i j) (sk S i j) (sk At i j)) (k - 1)) := by
      refine ownsRow_setCell_other (own_weak ho (by omega)) (fun e => ?_) _
      have h9 : b ≤ g := (ho.lt _ e).1
      omega
    obtain ⟨a1, a2 | ⟨gx, cap, cur, p1, p2, p3, p4'⟩⟩ := h1
    · exact ⟨a1, .inl a2⟩
    · refine ⟨a1, .inr ⟨gx, cap, cur, p1, p2, (ho5 gx (fun e => ?_)).trans p3, p4'⟩⟩
      subst e
      have h1 := heap_set_other (g := g) (i := 0) (v := v9) hm (by omega)
      rw [p3] at h1; injection h1 with h1; injection h1 with _ h1; exact absurd h1 (by decide)
  · unfold sk
    by_cases e : j < i
    · simp only [e, if_true]; exact hby j (by omega)
    · simp only [e, if_false]; exact hby (j + 1) (by omega)
  · unfold sk; split <;> exact h.sl _
  · exact sk_all (F := At) (p := fun n => 0 ≤ n ∧ n ≤ now) h.at_ j hj
  · exact sk_all (F := Ln) (p := fun n => n ≤ 1048576) h.lg j hj
  · exact (below_set (hC.mono (by omega)) hbg).trans (hb5.mono (by omega))
  · rw [ho5 j (by omega), heap_setCell_other wC ⟨g, 0, none⟩ j _ hj]
    exact hC.block j hlt
structure Stop (p : Prop) : Prop where
  out : p
theorem stop_at {p : Prop} (h : Stop p) : p := h.out
set_option maxRecDepth 100000 in
set_option maxHeartbeats 2000000 in
theorem rtake_in {w : World} {g base k : Nat} {now : Int} {F T At : Nat → Int} {S : Nat → Value} {Ln : Nat → Nat} {X : Nat → Nat → Int} {v : Value} (i : Nat) (h : RNet w g base k now F T At S Ln X v) (hi : i < k) :
    Calls Try.prog 18 #[.pointer (some ⟨g, 0, none⟩), .int .i64 i] w fun e w' => ∃ v', e = .returned (.tuple #[.agg (m3 (F i) (T i) (S i)), .int .i64 0]) ∧ RNet w' g base (k - 1) now (sk F i) (sk T i) (sk At i) (sk S i) (sk Ln i) (sk X i) v' ∧ BytT w' (S i) (Ln i) (X i) ∧ Below base w w' ∧ Kd g w w' ∧ ∀ q, v'.ownBlock = some q → w.heap.size ≤ q := by
  obtain ⟨ra, rc, rfl, hR, hkr, _⟩ := own_rows (c := 4) (fun i => rfl) h.own
  have HR := Lib.hid hR
  obtain ⟨gb, off, A, fr, rfl, hgA, hszA, hexA⟩ := hR i hi
  clear hR
  by_cases hcr : i + 1 = rc
  · have hki : k = i + 1 := by omega
    have hsi := h.sl i
    have hbg := h.bg
    have hk2 := h.hk
    have hb1 := below_new w (Obj.cells mz 24)
    have hb2 := below_alloc hb1 (Obj.cells mz 24)
    have HN := Lib.hid h
    have hg0 := h.row
    have hgw : g < w.heap.size := (Array.getElem?_eq_some_iff.1 hg0).1
    have HX := Lib.hid (show A.extract (off + i * 4) (off + i * 4 + 3) = m3 (F i) (T i) (S i) from by
      have h := congrArg (fun B : Array Value => B.extract 0 3) (show A.extract (off + i * 4) (off + i * 4 + 4) = p4 (F i) (T i) (S i) (At i) from hexA)
      simp only [Array.extract_extract] at h
      rw [show min (off + i * 4 + 3) (off + i * 4 + 4) = off + i * 4 + 3 by omega] at h
      exact h)
    have HZ := Lib.hid (show off + i * 4 + 4 ≤ A.size from hszA)
    have HA := Lib.hid (show (m3 (F i) (T i) (S i)).all (·.oneCell') = true from by obtain ⟨a, n, c, h⟩ := hsi; rw [h]; exact m3_all)
    have HMA := Lib.hid (fun j => show (p4 (F j) (T j) (S j) (At j)).all (·.oneCell') = true from by obtain ⟨a9, n9, c9, e9⟩ := HN.out.sl j; rw [e9]; exact p4_all)
    have HMS := Lib.hid (show (m3 (F i) (T i) (S i)).size = 3 from rfl)
    have HME := Lib.hid (extract_all (show (m3 (F i) (T i) (S i)).size = 3 from rfl))
    have HZM := Lib.hid mz_size
    have cat := rthere_any (i : Int) (h.kept hb1)
    rw [decide_eq_true (show 0 ≤ (i : Int) ∧ (i : Int) < k by omega)] at cat
    have hgA1 := heap_up (o := Obj.cells mz 24) hgA
    have hg1 := heap_up (o := Obj.cells mz 24) hg0
    have cg1 := cellF hg1
    have hc0 := heap_up (o := Obj.cells mz 24) (heap_alloc_new w (Obj.cells mz 24))
    have hik : (i : Int) < k := by omega
    clear hexA hszA hsi h
    obtain ⟨M, hM⟩ : ∃ M, M = m3 (F i) (T i) (S i) := ⟨_, rfl⟩
    have HMM := Lib.hid hM
    rw [← hM] at HX HA HMS HME
    rw [← hM]
    clear hM
    go_enter Try.func18, Try.ntmps18
    go_wp2_with (first | ((with_reducible refine at_alloc 24 ?_); refine wpList_alloc_named rfl 24 rfl mz (by kernel_rfl) ?_) | (go_at_call 31; (with_reducible refine (cat).mono ?_); rintro e w1 ⟨rfl, rfl⟩) | ((with_reducible refine at_load 24 ?_); refine wpList_load_part rfl 24 _ rfl (gb) (off + i * 4) rfl _ (A) _ _ 3 (hgA1) Try.underlying24 rfl (by kernel_rfl) (by have := HZ.out; omega) (M) (HX.out) ?_) | ((with_reducible refine at_store 24 ?_); refine wpList_store_over rfl 24 _ _ rfl ((w.alloc (Obj.cells mz 24)).heap.size) (M) rfl rfl _ _ (heap_alloc_new _ _) (by rw [HMS.out]; kernel_rfl) (by rw [HMS.out]; exact HZM.out) (HA.out) ?_; intro w2 hg2 hs2 ho2 hb2'; clear hs2; have cg2 := cellF ((ho2 g (by simp; omega)).trans (heap_up hg1)); have hw02 : Below w.heap.size w w2 := hb2.trans (hb2' _ (by simp)); have HG3 := Lib.hid (heap_up (o := Obj.cells #[] 65) (Ytfgcjgabknoamaa.kept hw02 HN.out.row)); have cg3 := cellF HG3.out; have HRA := Lib.hid (fun (wx : World) (hx : Below w2.heap.size w2 wx) => rowsT_kept HR.out (below_then hw02 hx))) | ((with_reducible refine at_append31 46 ?_); refine stop_at ?_))
    refine ⟨?_⟩
    refine wpList_append_puts rfl _ _ rfl w2.heap.size (.slice (some ⟨w2.heap.size, 0, none⟩) 0 0) 0 [] rfl (own_empty_p w2 _ _) (some ⟨gb, off, none⟩) i rc (fun j => p4 (F j) (T j) (S j) (At j)) (fun _ => rfl) HMA.out rfl (fun j hj => rowsP_of (HRA.out _ (below_new w2 (Obj.cells #[] 65))) j (by omega)) (fun h => by cases h) (by omega) (by omega) (by simp) ?_
    intro vA wA hoA hgA'
    rw [Nat.zero_add, List.nil_append] at hoA
    have HOA := Lib.hid hoA
    have hbA : Below w2.heap.size w2 wA := (below_new w2 (Obj.cells #[] 65)).grown hgA' (by simp) (fun j e => by have e : w2.heap.size = j := Option.some.inj e; omega)
    have HBA := Lib.hid hbA
    have cgA := cellF (Ytfgcjgabknoamaa.kept (below_then hw02 hbA) HN.out.row)
    clear hoA hgA' hbA
    go_wp2_with ((with_reducible refine at_append31 46 ?_); refine stop_at ?_)
    refine ⟨?_⟩
    refine wpList_append_puts rfl _ _ rfl w2.heap.size vA i (flat (fun j => p4 (F j) (T j) (S j) (At j)) i) rfl HOA.out _ 0 _ (fun j => p4 (F (i + 1 + j)) (T (i + 1 + j)) (S (i + 1 + j)) (At (i + 1 + j))) (fun _ => rfl) (fun j => HMA.out _) rfl (fun j hj => by omega) (fun h => by cases h) (by omega) (by omega) (by have := HBA.out.size; omega) ?_
    intro vC wC hoC hgC
    rw [Nat.add_zero] at hoC
    have hoC2 : wC.ownsRow w2.heap.size 65 4 vC (k - 1) (flat (fun j => p4 (sk F i j) (sk T i j) (sk S i j) (sk At i j)) (k - 1)) := by
      rw [← flat_skR hi, show k - (i + 1) = 0 by omega, show k - 1 = i by omega]; exact hoC
    have hbC : Below w2.heap.size w2 wC := HBA.out.grown hgC (by have := HBA.out.size; omega) (fun j e => (HOA.out.lt j e).1)
    have hgC2 := Ytfgcjgabknoamaa.kept (below_then hw02 hbC) HN.out.row
    have cgC := cellF hgC2
    have fgC := (cells_of hgC2).2.1
    have hm0 : w2.heap[w.heap.size]? = some (.cells mz 24 (0, 0)) := (ho2 _ (by simp)).trans hc0
    have hm1 : w2.heap[w.heap.size + 1]? = some (.cells M 24 (0, 0)) := by simpa using hg2
    have HM0 := Lib.hid (Ytfgcjgabknoamaa.kept hbC hm0)
    have hc1' := heap_set_other (g := g) (i := 0) (v := vC) (Ytfgcjgabknoamaa.kept hbC hm1) (by omega)
    have hc0' := heap_set_other (g := g) (i := 0) (v := vC) (Ytfgcjgabknoamaa.kept hbC hm0) (by omega)
    obtain ⟨aC, cC, rfl⟩ := own_form hoC
    have HC0 := Lib.hid hc0'
    have HBC := Lib.hid (below_then hw02 hbC)
    have h2s := hw02.size
    clear hgC hgC2 cgA cg1 cg2 cg3 hg1 hgA1 hgA cat hc0 hg2 hm0 hm1 hg0 HRA
    go_wp2_with (first | ((with_reducible refine at_load 24 ?_); refine wpList_load_part rfl 24 _ rfl (w.heap.size + 1) (0) rfl _ (M) _ _ 3 (hc1') Try.underlying24 rfl (by kernel_rfl) (by rw [HMS.out]; omega) (M) (HME.out) ?_) | ((with_reducible refine at_store 24 ?_); refine wpList_store_over rfl 24 _ _ rfl (w.heap.size) (M) rfl rfl _ _ (HC0.out) (by rw [HMS.out]; kernel_rfl) (by rw [HMS.out]; exact HZM.out) (HA.out) ?_; intro w5 hg5 hs5 ho5 hb5))
    obtain ⟨r1, r2, r3, r4, r5⟩ := rtake_fin (b := w2.heap.size) HN.out hi HBC.out h2s hoC2 ⟨_, HM0.out⟩ ho5 (hb5 _ (Nat.le_refl _))
    exact post_cell_tmp (g := w.heap.size) (t := 24) (v := .int .i64 0) rfl rfl rfl rfl hg5 Try.underlying24 rfl (by rw [HMS.out]; kernel_rfl) ⟨_, rfl, r1, r2 i hi, r3, r4, r5⟩
  · have hsi := h.sl i
    have hbg := h.bg
    have hk2 := h.hk
    have hb1 := below_new w (Obj.cells mz 24)
    have hb2 := below_alloc hb1 (Obj.cells mz 24)
    have HN := Lib.hid h
    have hg0 := h.row
    have hgw : g < w.heap.size := (Array.getElem?_eq_some_iff.1 hg0).1
    have HX := Lib.hid (show A.extract (off + i * 4) (off + i * 4 + 3) = m3 (F i) (T i) (S i) from by
      have h := congrArg (fun B : Array Value => B.extract 0 3) (show A.extract (off + i * 4) (off + i * 4 + 4) = p4 (F i) (T i) (S i) (At i) from hexA)
      simp only [Array.extract_extract] at h
      rw [show min (off + i * 4 + 3) (off + i * 4 + 4) = off + i * 4 + 3 by omega] at h
      exact h)
    have HZ := Lib.hid (show off + i * 4 + 4 ≤ A.size from hszA)
    have HA := Lib.hid (show (m3 (F i) (T i) (S i)).all (·.oneCell') = true from by obtain ⟨a, n, c, h⟩ := hsi; rw [h]; exact m3_all)
    have HMA := Lib.hid (fun j => show (p4 (F j) (T j) (S j) (At j)).all (·.oneCell') = true from by obtain ⟨a9, n9, c9, e9⟩ := HN.out.sl j; rw [e9]; exact p4_all)
    have HMS := Lib.hid (show (m3 (F i) (T i) (S i)).size = 3 from rfl)
    have HME := Lib.hid (extract_all (show (m3 (F i) (T i) (S i)).size = 3 from rfl))
    have HZM := Lib.hid mz_size
    have cat := rthere_any (i : Int) (h.kept hb1)
    rw [decide_eq_true (show 0 ≤ (i : Int) ∧ (i : Int) < k by omega)] at cat
    have hgA1 := heap_up (o := Obj.cells mz 24) hgA
    have hg1 := heap_up (o := Obj.cells mz 24) hg0
    have cg1 := cellF hg1
    have hc0 := heap_up (o := Obj.cells mz 24) (heap_alloc_new w (Obj.cells mz 24))
    have hik : (i : Int) < k := by omega
    clear hexA hszA hsi h
    obtain ⟨M, hM⟩ : ∃ M, M = m3 (F i) (T i) (S i) := ⟨_, rfl⟩
    have HMM := Lib.hid hM
    rw [← hM] at HX HA HMS HME
    rw [← hM]
    clear hM
    go_enter Try.func18, Try.ntmps18
    go_wp2_with (first | ((with_reducible refine at_alloc 24 ?_); refine wpList_alloc_named rfl 24 rfl mz (by kernel_rfl) ?_) | (go_at_call 31; (with_reducible refine (cat).mono ?_); rintro e w1 ⟨rfl, rfl⟩) | ((with_reducible refine at_load 24 ?_); refine wpList_load_part rfl 24 _ rfl (gb) (off + i * 4) rfl _ (A) _ _ 3 (hgA1) Try.underlying24 rfl (by kernel_rfl) (by have := HZ.out; omega) (M) (HX.out) ?_) | ((with_reducible refine at_store 24 ?_); refine wpList_store_over rfl 24 _ _ rfl ((w.alloc (Obj.cells mz 24)).heap.size) (M) rfl rfl _ _ (heap_alloc_new _ _) (by rw [HMS.out]; kernel_rfl) (by rw [HMS.out]; exact HZM.out) (HA.out) ?_; intro w2 hg2 hs2 ho2 hb2'; clear hs2; have cg2 := cellF ((ho2 g (by simp; omega)).trans (heap_up hg1)); have hw02 : Below w.heap.size w w2 := hb2.trans (hb2' _ (by simp)); have HG3 := Lib.hid (heap_up (o := Obj.cells #[] 65) (Ytfgcjgabknoamaa.kept hw02 HN.out.row)); have cg3 := cellF HG3.out; have HRA := Lib.hid (fun (wx : World) (hx : Below w2.heap.size w2 wx) => rowsT_kept HR.out (below_then hw02 hx))) | ((with_reducible refine at_append31 46 ?_); refine stop_at ?_))
    refine ⟨?_⟩
    refine wpList_append_puts rfl _ _ rfl w2.heap.size (.slice (some ⟨w2.heap.size, 0, none⟩) 0 0) 0 [] rfl (own_empty_p w2 _ _) (some ⟨gb, off, none⟩) i rc (fun j => p4 (F j) (T j) (S j) (At j)) (fun _ => rfl) HMA.out rfl (fun j hj => rowsP_of (HRA.out _ (below_new w2 (Obj.cells #[] 65))) j (by omega)) (fun h => by cases h) (by omega) (by omega) (by simp) ?_
    intro vA wA hoA hgA'
    rw [Nat.zero_add, List.nil_append] at hoA
    have HOA := Lib.hid hoA
    have hbA : Below w2.heap.size w2 wA := (below_new w2 (Obj.cells #[] 65)).grown hgA' (by simp) (fun j e => by have e : w2.heap.size = j := Option.some.inj e; omega)
    have HBA := Lib.hid hbA
    have cgA := cellF (Ytfgcjgabknoamaa.kept (below_then hw02 hbA) HN.out.row)
    clear hoA hgA' hbA
    go_wp2_with ((with_reducible refine at_append31 46 ?_); refine stop_at ?_)
    refine ⟨?_⟩
    refine wpList_append_puts rfl _ _ rfl w2.heap.size vA i (flat (fun j => p4 (F j) (T j) (S j) (At j)) i) rfl HOA.out (some ⟨gb, off + (i + 1) * 4, none⟩) (k - (i + 1)) (rc - (i + 1)) (fun j => p4 (F (i + 1 + j)) (T (i + 1 + j)) (S (i + 1 + j)) (At (i + 1 + j))) (fun _ => rfl) (fun j => HMA.out _) rfl (fun j hj => ?rw) (fun h => by cases h) (by omega) (by omega) (by have := HBA.out.size; omega) ?_
    case rw =>
      obtain ⟨g1, o1, A1, f1, e1, r1, r2, r3⟩ := HRA.out wA HBA.out (i + 1 + j) (by omega)
      cases e1
      exact ⟨_, _, A1, _, f1, rfl, r1, by rw [show off + (i + 1) * 4 + j * 4 = off + (i + 1 + j) * 4 by omega]; exact r2, by rw [show off + (i + 1) * 4 + j * 4 = off + (i + 1 + j) * 4 by omega]; exact r3⟩
    intro vC wC hoC hgC
    rw [show i + (k - (i + 1)) = k - 1 by omega] at hoC
    have hoC2 : wC.ownsRow w2.heap.size 65 4 vC (k - 1) (flat (fun j => p4 (sk F i j) (sk T i j) (sk S i j) (sk At i j)) (k - 1)) := by
      rw [← flat_skR hi]; exact hoC
    have hbC : Below w2.heap.size w2 wC := HBA.out.grown hgC (by have := HBA.out.size; omega) (fun j e => (HOA.out.lt j e).1)
    have hgC2 := Ytfgcjgabknoamaa.kept (below_then hw02 hbC) HN.out.row
    have cgC := cellF hgC2
    have fgC := (cells_of hgC2).2.1
    have hm0 : w2.heap[w.heap.size]? = some (.cells mz 24 (0, 0)) := (ho2 _ (by simp)).trans hc0
    have hm1 : w2.heap[w.heap.size + 1]? = some (.cells M 24 (0, 0)) := by simpa using hg2
    have HM0 := Lib.hid (Ytfgcjgabknoamaa.kept hbC hm0)
    have hc1' := heap_set_other (g := g) (i := 0) (v := vC) (Ytfgcjgabknoamaa.kept hbC hm1) (by omega)
    have hc0' := heap_set_other (g := g) (i := 0) (v := vC) (Ytfgcjgabknoamaa.kept hbC hm0) (by omega)
    obtain ⟨aC, cC, rfl⟩ := own_form hoC
    have HC0 := Lib.hid hc0'
    have HBC := Lib.hid (below_then hw02 hbC)
    have h2s := hw02.size
    clear hgC hgC2 cgA cg1 cg2 cg3 hg1 hgA1 hgA cat hc0 hg2 hm0 hm1 hg0 HRA
    go_wp2_with (first | ((with_reducible refine at_load 24 ?_); refine wpList_load_part rfl 24 _ rfl (w.heap.size + 1) (0) rfl _ (M) _ _ 3 (hc1') Try.underlying24 rfl (by kernel_rfl) (by rw [HMS.out]; omega) (M) (HME.out) ?_) | ((with_reducible refine at_store 24 ?_); refine wpList_store_over rfl 24 _ _ rfl (w.heap.size) (M) rfl rfl _ _ (HC0.out) (by rw [HMS.out]; kernel_rfl) (by rw [HMS.out]; exact HZM.out) (HA.out) ?_; intro w5 hg5 hs5 ho5 hb5))
    obtain ⟨r1, r2, r3, r4, r5⟩ := rtake_fin (b := w2.heap.size) HN.out hi HBC.out h2s hoC2 ⟨_, HM0.out⟩ ho5 (hb5 _ (Nat.le_refl _))
    exact post_cell_tmp (g := w.heap.size) (t := 24) (v := .int .i64 0) rfl rfl rfl rfl hg5 Try.underlying24 rfl (by rw [HMS.out]; kernel_rfl) ⟨_, rfl, r1, r2 i hi, r3, r4, r5⟩
end Go.Proofs.Ytfgcjgabknoamaa
