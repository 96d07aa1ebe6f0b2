/- Due and Expire of a calendar. Condition: the calendar is one. -/
import Derived.Test.YtobokknfpjjdeaaCalD
namespace Go.Proofs.Ytobokknfpjjdeaa
set_option linter.unusedVariables false
set_option linter.unusedSimpArgs false
open Go.RowKit

/-- the first of the first k that is so is at z, or z is -1 and none is -/
def FirstZ (q : Nat → Bool) (k : Nat) (z : Int) : Prop := -1 ≤ z ∧ z < k ∧ (0 ≤ z ↔ ∃ j, j < k ∧ q j = true)
set_option maxHeartbeats 1000000 in
theorem idxdue_any (ra : Option Addr) (rc k : Nat) (L : Nat → Array Value) (X : Array Value) (gt gb o : Nat) (A : Array Value) (w : World) (hL : ∀ i, IsCon (L i)) (hR : RowsT w 65 27 ra k L) (hk : k ≤ 2000) (hX : IsCon X)
    (ht : w.heap[gt]? = some (.cells #[.pointer (some ⟨gb, o, none⟩)] 110 (0, 0))) (hg : w.heap[gb]? = some (.cells A 65 (0, 0))) (hz : o + 27 ≤ A.size) (hx : A.extract o (o + 27) = X) :
    Calls Try.prog 84 #[.slice ra k rc, .func (.func 68) #[] #[.pointer (some ⟨gt, 0, none⟩)]] w fun e w' => ∃ z : Int, FirstZ (fun j => !decide (N (L j) 25 = 3) && aheadB (L j) X) k z ∧ e = .returned (.int .i64 z) ∧ Below w.heap.size w w' := by
  have HR := Lib.hid hR
  have HL := Lib.hid hL
  have HXC := Lib.hid hX
  have HZ0 := Lib.hid hz
  have HX0 := Lib.hid hx
  clear hR hL hX hz hx
  obtain ⟨Q, hQ⟩ : ∃ Q : Nat → Bool, Q = fun j => !decide (N (L j) 25 = 3) && aheadB (L j) X := ⟨_, rfl⟩
  rw [← hQ]
  have HQ := Lib.hid hQ
  clear hQ
  go_enter Try.func84, Try.ntmps84
  go_wp2
  go_loopg [8] k (fun gh i wr => ∃ j : Nat, j ≤ k ∧ gh = k - j ∧ i = .int .i64 j ∧ (∀ t, t < j → Q t = false) ∧ Below w.heap.size w wr)
  case atStart => exact ⟨0, by omega, by omega, rfl, fun t ht => by omega, Below.refl _ _⟩
  case round =>
    obtain ⟨j, hj, rfl, rfl, hdu, hb⟩ := hrel
    have HD := Lib.hid hdu
    clear hdu
    by_cases hlt : j < k
    · obtain ⟨ga, off, B, fr, rfl, hgA, hszA, hexA⟩ := HR.out j hlt
      have hgA2 := Ytobokknfpjjdeaa.kept hb hgA
      have ht2 := Ytobokknfpjjdeaa.kept hb ht
      have hg2 := Ytobokknfpjjdeaa.kept hb hg
      have HX := Lib.hid hexA
      have HZ := Lib.hid hszA
      have HQj := Lib.hid (show Q j = (!decide (N (L j) 25 = 3) && aheadB (L j) X) by rw [HQ.out])
      clear hexA hszA
      have cc := due1_any (L j) X gt gb o A _ (HL.out j) HXC.out ht2 hg2 HZ0.out HX0.out
      rw [← HQj.out] at cc
      have hone := Lib.hid (HL.out j)
      generalize L j = M at *
      cases hq : Q j
      · rw [hq] at cc
        have HV := Lib.hid hq
        clear hq
        go_wp2_with (first | ((with_reducible refine at_load 65 ?_); refine wpList_load_part rfl 65 _ rfl (ga) (off + j * 27) rfl _ (B) _ _ 27 (hgA2) Try.underlying65 rfl (by kernel_rfl) (by have := HZ.out; omega) (M) (HX.out) ?_) | (go_at_call 68; (with_reducible refine (cc).mono ?_); rintro e w1 ⟨rfl, hb1⟩))
        go_roundg (k - (j + 1))
        case measure => omega
        case rel =>
          refine ⟨j + 1, by omega, rfl, by go_num, fun t ht => ?_, below_then hb hb1⟩
          by_cases e : t = j
          · subst e; exact HV.out
          · exact HD.out t (by omega)
      · rw [hq] at cc
        have HV := Lib.hid hq
        clear hq
        go_wp2_with (first | ((with_reducible refine at_load 65 ?_); refine wpList_load_part rfl 65 _ rfl (ga) (off + j * 27) rfl _ (B) _ _ 27 (hgA2) Try.underlying65 rfl (by kernel_rfl) (by have := HZ.out; omega) (M) (HX.out) ?_) | (go_at_call 68; (with_reducible refine (cc).mono ?_); rintro e w1 ⟨rfl, hb1⟩))
        go_ret
        exact ⟨j, ⟨by omega, by omega, ⟨fun _ => ⟨j, hlt, HV.out⟩, fun _ => by omega⟩⟩, rfl, below_then hb hb1⟩
    · obtain rfl : j = k := by omega
      go_wp2
      go_ret
      refine ⟨-1, ⟨by omega, by omega, ⟨fun h => by omega, fun ⟨t, h1, h2⟩ => ?_⟩⟩, rfl, hb⟩
      rw [HD.out t h1] at h2; cases h2
theorem contdue_any (ra : Option Addr) (rc k : Nat) (L : Nat → Array Value) (X : Array Value) (gt gb o : Nat) (A : Array Value) (w : World) (hL : ∀ i, IsCon (L i)) (hR : RowsT w 65 27 ra k L) (hk : k ≤ 2000) (hX : IsCon X)
    (ht : w.heap[gt]? = some (.cells #[.pointer (some ⟨gb, o, none⟩)] 110 (0, 0))) (hg : w.heap[gb]? = some (.cells A 65 (0, 0))) (hz : o + 27 ≤ A.size) (hx : A.extract o (o + 27) = X) (r : Bool) (hr : r = true ↔ ∃ j, j < k ∧ (!decide (N (L j) 25 = 3) && aheadB (L j) X) = true) :
    Calls Try.prog 67 #[.slice ra k rc, .func (.func 68) #[] #[.pointer (some ⟨gt, 0, none⟩)]] w fun e w' => e = .returned (.bool r) ∧ Below w.heap.size w w' := by
  have ci := idxdue_any ra rc k L X gt gb o A w hL hR hk hX ht hg hz hx
  have HR := Lib.hid hr
  clear hL hR hX ht hg hz hx hr
  go_enter Try.func67, Try.ntmps67
  go_wp2_with ((go_at_call 84; (with_reducible refine (ci).mono ?_); rintro e w1 ⟨z, hz, rfl, hb⟩))
  go_ret
  refine ⟨?_, hb⟩
  obtain ⟨_, _, h3⟩ := hz
  have e : decide (0 ≤ z) = r := by
    cases r
    · exact decide_eq_false (fun h => by have := HR.out.2 (h3.1 h); cases this)
    · exact decide_eq_true (h3.2 (HR.out.1 rfl))
  rw [← e]; rfl
theorem q_call_in {P : Program} {ops : Array Oper} {Q : Act → Prop} {o : Oper} {rest : List Oper} {a : Act} {W : World} (v : Value) (f : FuncId) (args : Array Value) (hw : Region.wanted o (yielded ops a.tmps) = true) (hc : ∀ w, Below W.heap.size W w → Calls P f args w fun e w'' => e = .returned v ∧ Below w.heap.size w w'')
    (he : ∀ w, Below W.heap.size W w → (execOp a.eval o).run P w = .ok (.enter f args) w)
    (h : WQ P ops (fun w' => Below W.heap.size W w') Q rest (a.put o.dst v)) : WQ P ops (fun w' => Below W.heap.size W w') Q (o :: rest) a :=
  q_call v f args hw he (fun w hw => (hc w hw).mono fun _ _ ⟨h1, h2⟩ => ⟨h1, below_then hw h2⟩) h
theorem con_ld {L : Nat → Array Value} {i : Nat} (h : IsCon (L i)) : (L i)[23]? = some (.int .u32 (N (L i) 23)) := by
  have h1 := h.sp.c23.u32.1
  have hN : N ((L i).extract 0 25) 23 = N (L i) 23 := by rw [N_extract (by have := h.size; omega) (by omega), Nat.zero_add]
  rwa [hN, Array.getElem?_extract, if_pos (by have := h.size; omega), Nat.zero_add] at h1
set_option maxRecDepth 100000 in
set_option maxHeartbeats 2000000 in
theorem cdue_late {w : World} {g base k : Nat} {day : Int} {L : Nat → Array Value} {n : Int} {i : Nat} (r : Bool) (h : CalIs w g base k day L) (hi : i < k) (hn : N (L i) 0 = n) (hs : N (L i) 25 ≠ 3) (hd : N (L i) 23 ≤ day)
    (hr : r = true ↔ ∃ j, j < k ∧ (!decide (N (L j) 25 = 3) && aheadB (L j) (L i)) = true) :
    Calls Try.prog 35 #[.pointer (some ⟨g, 0, none⟩), .int .u32 n] w fun e w' => e = .returned (.int .i64 (if r then 51 else 0)) ∧ Below w.heap.size w w' := by
  obtain ⟨gb, rc, A, hA, hbb, hsz, hkr, hrc, htk⟩ := h.at_row (by omega)
  have ca := Lib.hid (calive_yes h hi hn hA hs)
  have HA := Lib.hid hA
  have HC := Lib.hid h
  have hc23 : A[i * 27 + 23]? = some (.int .u32 (N (L i) 23)) := by rw [hA.cell hi (by omega)]; exact con_ld (h.con i)
  have HI := Lib.hid (hA.2.2 i hi)
  have HR := Lib.hid hr
  have hk16 := h.hk
  have HCI := Lib.hid (h.con i)
  clear h hA hn hs htk hr
  generalize hLi : L i = X at *
  clear hLi
  generalize N X 23 = ld at *
  have hd' : decide (day < ld) = false := decide_eq_false (by omega)
  go_enter Try.func35, Try.ntmps35
  go_wp2_with (first | (go_at_call 61; (with_reducible refine (ca.out).mono ?_); rintro e w1 ⟨rfl, hb⟩))
  have hbt := below_new w1 (Obj.cells #[.pointer (some ⟨gb, i * 27, none⟩)] 110)
  have ht := heap_alloc_new w1 (Obj.cells #[.pointer (some ⟨gb, i * 27, none⟩)] 110)
  have hA1 := HA.out.kept (below_then hb hbt)
  have hg1 := hA1.1
  have ha1 := hA1.2.1
  have HC1 := Lib.hid (HC.out.kept (below_then hb hbt))
  have hb12 := below_then hb hbt
  have hmf : ∀ (fn : Fn) (first cap : Array Value) (w : World), (Instr.makeFunc fn first cap).run Try.prog w = .ok (.func fn first cap) w := fun _ _ _ _ => rfl
  generalize hgt : w1.heap.size = gt at *
  generalize w1.alloc (Obj.cells #[.pointer (some ⟨gb, i * 27, none⟩)] 110) = w2 at *
  have CF := Lib.hid (fun wq (hbq : Below w2.heap.size w2 wq) => show Calls Try.prog 67 #[.slice (some ⟨gb, 0, none⟩) k rc, .func (.func 68) #[] #[.pointer (some ⟨gt, 0, none⟩)]] wq _ from by
    have hq := HC1.out.kept hbq
    obtain ⟨v, hgv, hrow⟩ := hq.row
    obtain ⟨ra, rc', rfl, hR, _⟩ := own_rows (c := 27) (fun i => (hq.con i).size) hrow
    have hg3 := Ytobokknfpjjdeaa.kept hbq hg1
    rw [hgv] at hg3
    have e := hg3
    simp at e
    obtain ⟨e1, e2⟩ := e
    subst e1 e2
    exact contdue_any (some ⟨gb, 0, none⟩) rc' k L X gt gb (i * 27) A wq hq.con hR (by omega) HCI.out (Ytobokknfpjjdeaa.kept hbq ht) (Ytobokknfpjjdeaa.kept hbq ha1) HI.out.1 HI.out.2 r HR.out)
  refine wp_region_below (by kernel_rfl) (by kernel_rfl) ?_
  repeat (first | (simp only [hd']) | ((with_reducible apply q_skip); (case hw => rfl); (try simp only [Act.put, List.setIfInBounds_toArray, List.set_cons_zero, List.set_cons_succ])) | ((with_reducible refine at_qcall 67 ?_); refine q_call_in _ 67 _ (by rfl) (fun wq hbq => CF.out wq hbq) (fun wq hbq => by go_simp) ?_; try simp only [Act.put, List.setIfInBounds_toArray, List.set_cons_zero, List.set_cons_succ]) | ((with_reducible apply q_val); (case hw => rfl); (case hv => intro wq hbq; have hcq := cellF (Ytobokknfpjjdeaa.kept hbq hg1); have hcr := cellF (Ytobokknfpjjdeaa.kept hbq ht); have hcs := cellF (Ytobokknfpjjdeaa.kept hbq ha1); go_simp; try rfl); (try simp only [Act.put, List.setIfInBounds_toArray, List.set_cons_zero, List.set_cons_succ])))
  refine q_nil ?_
  intro w6 hb6
  cases r
  · go_wp2
    go_ret
    exact ⟨rfl, below_then hb12 hb6⟩
  · go_wp2
    go_ret
    exact ⟨rfl, below_then hb12 hb6⟩
/-- no other one that is not expired expires ahead of the one at i -/
def FirstDue (L : Nat → Array Value) (k i : Nat) : Prop := ∀ j, j < k → N (L j) 25 ≠ 3 → aheadB (L j) (L i) = false
/-- Due of a contract that is alive -/
theorem cdue_any {w : World} {g base k : Nat} {day : Int} {L : Nat → Array Value} {n : Int} {i : Nat} (h : CalIs w g base k day L) (hi : i < k) (hn : N (L i) 0 = n) (hs : N (L i) 25 ≠ 3) :
    Calls Try.prog 35 #[.pointer (some ⟨g, 0, none⟩), .int .u32 n] w fun e w' => ((e = .returned (.int .i64 51) ∧ ¬ (N (L i) 23 ≤ day ∧ FirstDue L k i)) ∨ (e = .returned (.int .i64 0) ∧ N (L i) 23 ≤ day ∧ FirstDue L k i)) ∧ Below w.heap.size w w' := by
  by_cases hd : day < N (L i) 23
  · exact (cdue_early h hi hn hs hd).mono fun e w' ⟨h1, h2⟩ => ⟨.inl ⟨h1, fun h => by omega⟩, h2⟩
  · by_cases hf : FirstDue L k i
    · refine (cdue_late false h hi hn hs (by omega) ⟨(fun h => by cases h), fun ⟨j, h1, h2⟩ => ?_⟩).mono fun e w' ⟨h1, h2⟩ => ⟨.inr ⟨h1, by omega, hf⟩, h2⟩
      simp only [Bool.and_eq_true, Bool.not_eq_true', decide_eq_false_iff_not] at h2
      rw [hf j h1 h2.1] at h2
      cases h2.2
    · refine (cdue_late true h hi hn hs (by omega) ⟨fun _ => ?_, fun _ => rfl⟩).mono fun e w' ⟨h1, h2⟩ => ⟨.inl ⟨h1, fun h => hf h.2⟩, h2⟩
      apply Classical.byContradiction
      intro hne
      refine hf fun j h1 h2 => ?_
      cases ha : aheadB (L j) (L i)
      · rfl
      · exact absurd ⟨j, h1, by simp [ha, h2]⟩ hne
set_option maxRecDepth 100000 in
set_option maxHeartbeats 1000000 in
theorem cexp_in {w : World} {g base k : Nat} {day : Int} {L : Nat → Array Value} {n : Int} {i : Nat} (h : CalIs w g base k day L) (hi : i < k) (hn : N (L i) 0 = n) (hs : N (L i) 25 ≠ 3) :
    Calls Try.prog 27 #[.pointer (some ⟨g, 0, none⟩), .int .u32 n] w fun e w' => (e = .returned (.int .i64 51) ∧ ¬ (N (L i) 23 ≤ day ∧ FirstDue L k i) ∧ Below w.heap.size w w') ∨
      (e = .returned (.int .i64 0) ∧ N (L i) 23 ≤ day ∧ FirstDue L k i ∧ CalIs w' g base k day (stt L i 3) ∧ Below base w w' ∧ Kv g w w') := by
  have cd := cdue_any h hi hn hs
  obtain ⟨gb, rc, A, hA, hbb, hsz, hkr, hrc, htk⟩ := h.at_row (by omega)
  have CA := Lib.hid (fun w1 (hb1 : Below w.heap.size w w1) => calive_yes (h.kept hb1) hi hn (hA.kept hb1) hs)
  have HA := Lib.hid hA
  have HZ := Lib.hid (show i * 27 + 27 ≤ A.size from (hA.2.2 i hi).1)
  have hlt25 : A[i * 27 + 25]? = some (A[i * 27 + 25]'(by have := HZ.out; omega)) := Array.getElem?_eq_getElem _
  obtain ⟨v25, hv25⟩ : ∃ v, A[i * 27 + 25]? = some v := ⟨_, hlt25⟩
  have HF := Lib.hid (fun (w1 : World) (hb1 : Below w.heap.size w w1) => cal_set (L' := stt L i 3) (u := .int .u8 3) h hA hbb hsz hkr hrc htk hi (show 25 < 27 by omega) rfl (con_stt h.con (by decide)) (fun r => N_stt r 0 (by decide)) hb1)
  clear h hA hn hs htk hlt25
  go_enter Try.func27, Try.ntmps27
  go_wp2_with fail
  go_at_call 35
  refine cd.mono ?_
  rintro e w1 ⟨⟨rfl, hno⟩ | ⟨rfl, hy1, hy2⟩, hb⟩
  · have HN := Lib.hid hno
    clear hno
    go_wp2_with fail
    go_ret
    exact .inl ⟨rfl, HN.out, hb⟩
  · have HY := Lib.hid (And.intro hy1 hy2)
    clear hy1 hy2
    go_wp2_with ((go_at_call 61; (with_reducible refine (CA.out _ hb).mono ?_); rintro e w2 ⟨rfl, hb2⟩; have hb12 := below_then hb hb2; have h2 := HA.out.kept hb12; have c2 := cellF h2.2.1; have f2 := (cells_of h2.2.1).2.1; clear h2))
    go_ret
    exact .inr ⟨rfl, HY.out.1, HY.out.2, HF.out _ hb12⟩
theorem cexp_out {w : World} {g base k : Nat} {day : Int} {L : Nat → Array Value} {n : Int} (h : CalIs w g base k day L) (hn : ∀ i, i < k → N (L i) 0 ≠ n) :
    Calls Try.prog 27 #[.pointer (some ⟨g, 0, none⟩), .int .u32 n] w fun e w' => e = .returned (.int .i64 7) ∧ Below w.heap.size w w' := by
  have cd := cdue_out h hn
  go_enter Try.func27, Try.ntmps27
  go_wp2_with ((go_at_call 35; (with_reducible refine (cd).mono ?_); rintro e w1 ⟨rfl, hb⟩))
  go_ret
  exact ⟨rfl, hb⟩
theorem cexp_gone {w : World} {g base k : Nat} {day : Int} {L : Nat → Array Value} {n : Int} {i : Nat} (h : CalIs w g base k day L) (hi : i < k) (hn : N (L i) 0 = n) (hs : N (L i) 25 = 3) :
    Calls Try.prog 27 #[.pointer (some ⟨g, 0, none⟩), .int .u32 n] w fun e w' => e = .returned (.int .i64 50) ∧ Below w.heap.size w w' := by
  have cd := cdue_gone h hi hn hs
  go_enter Try.func27, Try.ntmps27
  go_wp2_with ((go_at_call 35; (with_reducible refine (cd).mono ?_); rintro e w1 ⟨rfl, hb⟩))
  go_ret
  exact ⟨rfl, hb⟩
end Go.Proofs.Ytobokknfpjjdeaa
