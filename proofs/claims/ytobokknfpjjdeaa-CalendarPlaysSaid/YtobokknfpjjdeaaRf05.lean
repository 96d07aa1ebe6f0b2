/- The document's calendar: List. Condition: the calendar is one. -/
import Derived.Test.YtobokknfpjjdeaaRe05
import Derived.Test.YtobokknfpjjdeaaEqCon
import Derived.Test.YtobokknfpjjdeaaCalLB
namespace Go.Proofs.Ytobokknfpjjdeaa
set_option linter.unusedVariables false
set_option linter.unusedSimpArgs false
open Go.RowKit

theorem flat_add (A : Nat → Array Value) (n : Nat) : ∀ m, flat A (n + m) = flat A n ++ flat (fun j => A (n + j)) m
  | 0 => by simp [flat]
  | m + 1 => by rw [← Nat.add_assoc, flat, flat_add A n m, flat, List.append_assoc]
theorem flat_insR {L : Nat → Array Value} {k p : Nat} {B : Array Value} (hp : p ≤ k) : flat (ins L p B) (k + 1) = (flat L p ++ B.toList) ++ flat (fun j => L (p + j)) (k - p) := by
  rw [show k + 1 = (p + 1) + (k - p) by omega, flat_add, flat]
  rw [flat_congr p (fun i hi => show ins L p B i = L i from by unfold ins; rw [if_pos hi]), show ins L p B p = B from by unfold ins; rw [if_neg (by omega), if_pos rfl]]
  rw [flat_congr (k - p) (fun i hi => show ins L p B (p + 1 + i) = L (p + i) from by unfold ins; rw [if_neg (by omega), if_neg (by omega)]; congr 1; omega)]
theorem ins_srt {L : Nat → Array Value} {k p : Nat} {B : Array Value} (hs : ∀ i j, i < j → j < k → N (L i) 0 < N (L j) 0) (hp : p ≤ k) (hlo : ∀ i, i < p → N (L i) 0 < N B 0) (hhi : ∀ i, p ≤ i → i < k → N B 0 < N (L i) 0) (a c : Nat) (hac : a < c) (hc : c < k + 1) : N (ins L p B a) 0 < N (ins L p B c) 0 := by
  have e1 : ∀ r, r < p → ins L p B r = L r := fun r hr => by unfold ins; rw [if_pos hr]
  have e2 : ins L p B p = B := by unfold ins; rw [if_neg (by omega), if_pos rfl]
  have e3 : ∀ r, p < r → ins L p B r = L (r - 1) := fun r hr => by unfold ins; rw [if_neg (by omega), if_neg (by omega)]
  rcases Nat.lt_trichotomy c p with hj | hj | hj
  · rw [e1 a (by omega), e1 c hj]; exact hs a c hac (by omega)
  · subst hj; rw [e2, e1 a hac]; exact hlo a hac
  · rw [e3 c hj]
    rcases Nat.lt_trichotomy a p with hi | hi | hi
    · rw [e1 a hi]; exact hs a (c - 1) (by omega) (by omega)
    · subst hi; rw [e2]; exact hhi (c - 1) (by omega) (by omega)
    · rw [e3 a hi]; exact hs (a - 1) (c - 1) (by omega) (by omega)
/-- 'append(own, contracts...)' -/
theorem wpList_append_con2 {ops : Array Oper} {rest : List Oper} {o : Oper} {a : Act} {w : World} {Q : Exit → Act → World → Prop} (hgd : o.guard = none) (s x : Operand)
    (ho : o.op = .call { callee := .builtin .append, args := #[s, x], argTypes := #[62, 62] })
    (base : Nat) (v : Value) (n : Nat) (xs : List Value) (hs : a.eval s = v) (hown : w.ownsRow base 65 27 v n xs)
    (ad : Option Addr) (m cp : Nat) (L : Nat → Array Value) (hL : ∀ i, IsCon (L i)) (hx : a.eval x = .slice ad m cp) (hl : RowsC w 27 ad m L) (hnil : ad = none → m = 0 ∧ cp = 0)
    (hn : n ≤ 1000) (hm : m ≤ 1000) (hbase : base ≤ w.heap.size)
    (h : ∀ v' w', w'.ownsRow base 65 27 v' (n + m) (xs ++ flat L m) → w.grownBy w' v.ownBlock → wpList Try.prog ops Q rest (a.put o.dst v') w') : wpList Try.prog ops Q (o :: rest) a w := by
  obtain ⟨i, z, h1, h2, h3, h4, h5⟩ := info_conI
  cases ad with
  | none =>
    obtain ⟨rfl, rfl⟩ := hnil rfl
    refine wpList_append_own_none hgd s x _ ho base _ i 27 Try.underlying62 h1 v n xs hs hown hx ?_
    exact h v w (by simpa [flat] using hown) ⟨rfl, rfl, rfl, Nat.le_refl _, fun _ _ _ => rfl⟩
  | some ad =>
    refine wpList_append_own w hgd s x _ ho base _ i z 27 i.bytes Try.underlying62 h1 h2 h3 rfl h5 (by omega) v n xs hs hown ad m cp (flat L m) hx (flatc_len (fun i => (hL i).size) m) (rows_at (by omega) (fun i => (hL i).size) (fun i hi => by obtain ⟨g, off, A, t, fr, r⟩ := hl i hi; exact ⟨g, off, A, t, fr, r⟩)) (flatc_one (fun i => (hL i).all) m) (by unfold maxLen; omega) ?_ hbase ?_
    · have := Nat.mul_le_mul (show n + m ≤ 2000 by omega) h4
      omega
    · intro v' w' h6 h7 _
      exact h v' w' h6 h7
theorem one_row {w : World} {B : Array Value} (hB : B.size = 27) : RowsC (w.alloc (.cells B 65)) 27 (some ⟨w.heap.size, 0, none⟩) 1 (fun _ => B) := fun i hi => by
  obtain rfl : i = 0 := by omega
  exact ⟨_, 0, B, _, _, rfl, heap_alloc_new _ _, by omega, by simp [← hB]⟩
structure Stop (p : Prop) : Prop where
  out : p
theorem stop_at {p : Prop} (h : Stop p) : p := h.out
theorem own_form {w : World} {base n c : Nat} {e : TypeId} {v : Value} {xs : List Value} (h : w.ownsRow base e c v n xs) : ∃ a cp, v = .slice a n cp := by
  obtain ⟨_, ⟨rfl, rfl⟩ | ⟨g, cap, cur, rfl, _⟩⟩ := h
  · exact ⟨none, 0, rfl⟩
  · exact ⟨_, _, rfl⟩
theorem rl_fin {w w4 wC : World} {g base k j : Nat} {day : Int} {L : Nat → Array Value} {v vC : Value} {B : Array Value} (h : RIs w g base k day L v) (hb4 : Below w.heap.size w w4) (hbC : Below w4.heap.size w4 wC)
    (hoC : wC.ownsRow w4.heap.size 65 27 vC (j + 1 + (k - j)) ((flat L j ++ flat (fun _ => B) 1) ++ flat (fun i => L (j + i)) (k - j))) (hB : IsCon B) (hj : j ≤ k) (hlo : ∀ i, i < j → N (L i) 0 < N B 0) (hhi : ∀ i, j ≤ i → i < k → N B 0 < N (L i) 0) (hk : k < 16) :
    ∃ v', RIs (wC.setCell ⟨g, 1, none⟩ vC) g base (k + 1) day (ins L j B) v' ∧ Below base w (wC.setCell ⟨g, 1, none⟩ vC) ∧ Kr g v w (wC.setCell ⟨g, 1, none⟩ vC) ∧ ∀ b, v'.ownBlock = some b → w.heap.size ≤ b := by
  have hbw : base ≤ w.heap.size := by have := (Array.getElem?_eq_some_iff.1 h.row).1; have := h.bg; omega
  have hgw : g < w.heap.size := (Array.getElem?_eq_some_iff.1 h.row).1
  have hbl := below_then hb4 hbC
  have h4 := hb4.size
  have hgC := Ytobokknfpjjdeaa.kept hbl h.row
  rw [show flat (fun _ => B) 1 = B.toList from by simp [flat], ← flat_insR hj, show j + 1 + (k - j) = k + 1 by omega] at hoC
  refine ⟨vC, ⟨heap_set (i := 1) (v := vC) hgC, ?_, h.bg, ins_con h.con hB, ins_srt h.srt hj hlo hhi, by omega, h.hd⟩, below_set (hbl.mono hbw) h.bg, fun i hi _ hlt => ?_, fun b hb => ?_⟩
  · refine ownsRow_setCell_other (Go.Joins.ownsRow_le hoC (by omega)) (fun e => ?_) _
    have : w4.heap.size ≤ g := (hoC.lt _ e).1
    omega
  · rw [heap_setCell_other wC ⟨g, 1, none⟩ i _ hi]
    exact hbl.block i hlt
  · have := (hoC.lt _ hb).1
    omega
set_option maxRecDepth 100000 in
theorem rlist_bad {w : World} {g base k : Nat} {day : Int} {L : Nat → Array Value} {v : Value} {A : Array Value} (h : RIs w g base k day L v) (hA : IsSpec A) (hm : mayB A = false) :
    Calls Try.prog 38 #[.pointer (some ⟨g, 0, none⟩), .agg A] w fun e w' => e = .returned (.int .i64 2) ∧ Below w.heap.size w w' := by
  have hb0 := below_new w (Obj.cells A 61)
  have hgp := heap_alloc_new w (Obj.cells A 61)
  have HGP := Lib.hid hgp
  have cm := Lib.hid (fun w1 => rmay_any A w1 hA)
  rw [hm] at cm
  have HH := Lib.hid (h.kept hb0)
  have h0 := hA.c0.u32.1
  have h23 := hA.c23.u32.1
  have h24 := hA.c24.i64.1
  have HSZ := Lib.hid hA.size
  have HEX := Lib.hid (extract_all hA.size)
  clear h hA hm
  go_enter Try.func38, Try.ntmps38
  go_wp2_with (first | ((with_reducible refine at_load 61 ?_); refine wpList_load_part rfl 61 _ rfl (w.heap.size) (0) rfl _ (A) _ _ 25 (hgp) Try.underlying61 rfl (by kernel_rfl) (by rw [HSZ.out]; omega) (A) (HEX.out) ?_) | (go_at_call 64; (with_reducible refine (cm.out _).mono ?_); rintro e w1 ⟨rfl, hb1⟩; have cp1 := cellF (Ytobokknfpjjdeaa.kept hb1 hgp)))
  go_ret
  exact ⟨rfl, below_then hb0 hb1⟩
set_option maxRecDepth 100000 in
theorem rlist_twice {w : World} {g base k i : Nat} {day : Int} {L : Nat → Array Value} {v : Value} {A : Array Value} (h : RIs w g base k day L v) (hA : IsSpec A) (hm : mayB A = true) (hi : i < k) (hn : N (L i) 0 = N A 0) :
    Calls Try.prog 38 #[.pointer (some ⟨g, 0, none⟩), .agg A] w fun e w' => e = .returned (.int .i64 8) ∧ Below w.heap.size w w' := by
  have hb0 := below_new w (Obj.cells A 61)
  have hgp := heap_alloc_new w (Obj.cells A 61)
  have HGP := Lib.hid hgp
  have cm := Lib.hid (fun w1 => rmay_any A w1 hA)
  rw [hm] at cm
  have HH := Lib.hid (h.kept hb0)
  have h0 := hA.c0.u32.1
  have h23 := hA.c23.u32.1
  have h24 := hA.c24.i64.1
  have HSZ := Lib.hid hA.size
  have HEX := Lib.hid (extract_all hA.size)
  have HP := Lib.hid (fun w1 (h1 : RIs w1 g base k day L v) => rplace_in h1 hi hn)
  have hi0 : (0 : Int) ≤ (i : Int) := by omega
  clear h hA hm hn
  go_enter Try.func38, Try.ntmps38
  go_wp2_with (first | ((with_reducible refine at_load 61 ?_); refine wpList_load_part rfl 61 _ rfl (w.heap.size) (0) rfl _ (A) _ _ 25 (hgp) Try.underlying61 rfl (by kernel_rfl) (by rw [HSZ.out]; omega) (A) (HEX.out) ?_) | (go_at_call 64; (with_reducible refine (cm.out _).mono ?_); rintro e w1 ⟨rfl, hb1⟩; have cp1 := cellF (Ytobokknfpjjdeaa.kept hb1 hgp)) | (go_at_call 70; (with_reducible refine (HP.out _ (HH.out.kept hb1)).mono ?_); rintro e w2 ⟨rfl, rfl⟩))
  go_ret
  exact ⟨rfl, below_then hb0 hb1⟩
set_option maxRecDepth 100000 in
theorem rlist_late {w : World} {g base k : Nat} {day : Int} {L : Nat → Array Value} {v : Value} {A : Array Value} (h : RIs w g base k day L v) (hA : IsSpec A) (hm : mayB A = true) (hfr : ∀ i, i < k → N (L i) 0 ≠ N A 0) (hd : N A 23 < day) :
    Calls Try.prog 38 #[.pointer (some ⟨g, 0, none⟩), .agg A] w fun e w' => e = .returned (.int .i64 51) ∧ Below w.heap.size w w' := by
  have hb0 := below_new w (Obj.cells A 61)
  have hgp := heap_alloc_new w (Obj.cells A 61)
  have HGP := Lib.hid hgp
  have cm := Lib.hid (fun w1 => rmay_any A w1 hA)
  rw [hm] at cm
  have HH := Lib.hid (h.kept hb0)
  have h0 := hA.c0.u32.1
  have h23 := hA.c23.u32.1
  have h24 := hA.c24.i64.1
  have HSZ := Lib.hid hA.size
  have HEX := Lib.hid (extract_all hA.size)
  have HP := Lib.hid (fun w1 (h1 : RIs w1 g base k day L v) => rplace_out h1 hfr)
  have hd1 : decide (N A 23 < day) = true := decide_eq_true hd
  clear h hA hm hfr
  go_enter Try.func38, Try.ntmps38
  go_wp2_with (first | ((with_reducible refine at_load 61 ?_); refine wpList_load_part rfl 61 _ rfl (w.heap.size) (0) rfl _ (A) _ _ 25 (hgp) Try.underlying61 rfl (by kernel_rfl) (by rw [HSZ.out]; omega) (A) (HEX.out) ?_) | (go_at_call 64; (with_reducible refine (cm.out _).mono ?_); rintro e w1 ⟨rfl, hb1⟩; have cp1 := cellF (Ytobokknfpjjdeaa.kept hb1 hgp)) | (go_at_call 70; (with_reducible refine (HP.out _ (HH.out.kept hb1)).mono ?_); rintro e w2 ⟨rfl, rfl⟩))
  have HG1 := Lib.hid (HH.out.kept hb1).row
  have HX1 := Lib.hid (Ytobokknfpjjdeaa.kept hb1 hgp)
  refine wp_region_below (by kernel_rfl) (by kernel_rfl) ?_
  repeat (first | ((with_reducible apply q_skip); (case hw => rfl); (try simp only [Act.put, List.setIfInBounds_toArray, List.set_cons_zero, List.set_cons_succ, hd1])) | ((with_reducible apply q_val); (case hw => rfl); (case hv => intro wq hbq; have hcL := cellF (Ytobokknfpjjdeaa.kept hbq HG1.out); have hcA := cellF (Ytobokknfpjjdeaa.kept hbq HX1.out); go_simp; try rfl); (try simp only [Act.put, List.setIfInBounds_toArray, List.set_cons_zero, List.set_cons_succ, hd1])))
  refine q_nil ?_
  intro w4 hb4
  go_wp2
  go_ret
  exact ⟨rfl, below_then (below_then hb0 hb1) hb4⟩
set_option maxRecDepth 100000 in
theorem rlist_full {w : World} {g base k : Nat} {day : Int} {L : Nat → Array Value} {v : Value} {A : Array Value} (h : RIs w g base k day L v) (hA : IsSpec A) (hm : mayB A = true) (hfr : ∀ i, i < k → N (L i) 0 ≠ N A 0) (hd : day ≤ N A 23) (hk : 16 ≤ k) :
    Calls Try.prog 38 #[.pointer (some ⟨g, 0, none⟩), .agg A] w fun e w' => e = .returned (.int .i64 9) ∧ Below w.heap.size w w' := by
  have hb0 := below_new w (Obj.cells A 61)
  have hgp := heap_alloc_new w (Obj.cells A 61)
  have HGP := Lib.hid hgp
  have cm := Lib.hid (fun w1 => rmay_any A w1 hA)
  rw [hm] at cm
  have HH := Lib.hid (h.kept hb0)
  have h0 := hA.c0.u32.1
  have h23 := hA.c23.u32.1
  have h24 := hA.c24.i64.1
  have HSZ := Lib.hid hA.size
  have HEX := Lib.hid (extract_all hA.size)
  have HP := Lib.hid (fun w1 (h1 : RIs w1 g base k day L v) => rplace_out h1 hfr)
  have hd1 : decide (N A 23 < day) = false := decide_eq_false (by omega)
  obtain ⟨ra, rc, rfl, _⟩ := own_rows (c := 27) (fun i => (h.con i).size) h.own
  have hk16 : (16 : Int) ≤ (k : Int) := by omega
  clear h hA hm hfr
  go_enter Try.func38, Try.ntmps38
  go_wp2_with (first | ((with_reducible refine at_load 61 ?_); refine wpList_load_part rfl 61 _ rfl (w.heap.size) (0) rfl _ (A) _ _ 25 (hgp) Try.underlying61 rfl (by kernel_rfl) (by rw [HSZ.out]; omega) (A) (HEX.out) ?_) | (go_at_call 64; (with_reducible refine (cm.out _).mono ?_); rintro e w1 ⟨rfl, hb1⟩; have cp1 := cellF (Ytobokknfpjjdeaa.kept hb1 hgp)) | (go_at_call 70; (with_reducible refine (HP.out _ (HH.out.kept hb1)).mono ?_); rintro e w2 ⟨rfl, rfl⟩))
  have HG1 := Lib.hid (HH.out.kept hb1).row
  have HX1 := Lib.hid (Ytobokknfpjjdeaa.kept hb1 hgp)
  refine wp_region_below (by kernel_rfl) (by kernel_rfl) ?_
  repeat (first | ((with_reducible apply q_skip); (case hw => rfl); (try simp only [Act.put, List.setIfInBounds_toArray, List.set_cons_zero, List.set_cons_succ, hd1])) | ((with_reducible apply q_val); (case hw => rfl); (case hv => intro wq hbq; have hcL := cellF (Ytobokknfpjjdeaa.kept hbq HG1.out); have hcA := cellF (Ytobokknfpjjdeaa.kept hbq HX1.out); go_simp; try rfl); (try simp only [Act.put, List.setIfInBounds_toArray, List.set_cons_zero, List.set_cons_succ, hd1])))
  refine q_nil ?_
  intro w4 hb4
  have cg4 := cellF (Ytobokknfpjjdeaa.kept hb4 HG1.out)
  go_wp2
  go_ret
  exact ⟨rfl, below_then (below_then hb0 hb1) hb4⟩
set_option maxRecDepth 100000 in
set_option maxHeartbeats 2000000 in
theorem rlist_ok {w : World} {g base k pi : Nat} {day : Int} {L : Nat → Array Value} {v : Value} {A : Array Value} (h : RIs w g base k day L v) (hA : IsSpec A) (hm : mayB A = true) (hat : At L k (N A 0) pi) (hfr : ∀ i, i < k → N (L i) 0 ≠ N A 0) (hd : day ≤ N A 23) (hk : k < 16) :
    Calls Try.prog 38 #[.pointer (some ⟨g, 0, none⟩), .agg A] w fun e w' => e = .returned (.int .i64 0) ∧ ∃ v', RIs w' g base (k + 1) day (ins L pi (conA A (N A 24))) v' ∧ Below base w w' ∧ Kr g v w w' ∧ ∀ b, v'.ownBlock = some b → w.heap.size ≤ b := by
  have hb0 := below_new w (Obj.cells A 61)
  have hgp := heap_alloc_new w (Obj.cells A 61)
  have HGP := Lib.hid hgp
  have cm := Lib.hid (fun w1 => rmay_any A w1 hA)
  rw [hm] at cm
  have HH := Lib.hid (h.kept hb0)
  have h0 := hA.c0.u32.1
  have h23 := hA.c23.u32.1
  have h24 := hA.c24.i64.1
  have HSZ := Lib.hid hA.size
  have HEX := Lib.hid (extract_all hA.size)
  have HP := Lib.hid (fun w1 (h1 : RIs w1 g base k day L v) => rplace_out h1 hfr)
  have hd1 : decide (N A 23 < day) = false := decide_eq_false (by omega)
  have HC := Lib.hid h.con
  have HI := Lib.hid h
  have hpi : pi ≤ k := hat.1
  have HLT := Lib.hid (fun i (hi : i < pi) => hat.2.1 i hi)
  have HGE := Lib.hid (fun i (h1 : pi ≤ i) (h2 : i < k) => show N A 0 < N (L i) 0 from by have := hat.2.2 i h1 h2; have := hfr i h2; omega)
  have HB := Lib.hid (conA_con (p := N A 24) hA hA.c24.2)
  have HN0 := Lib.hid (show N (conA A (N A 24)) 0 = N A 0 from conA_N (by rw [hA.size]; omega))
  have HBU := Lib.hid (built_con (p := N A 24) hA.size)
  obtain ⟨ra, rc, rfl, hR, hkr, hrc, hrz⟩ := own_rows (c := 27) (fun i => (h.con i).size) h.own
  have HR := Lib.hid hR
  have HZ := Lib.hid hrz
  have hk16 : ¬ (16 : Int) ≤ (k : Int) := by omega
  clear h hA hm hfr hR hat hrz
  go_enter Try.func38, Try.ntmps38
  go_wp2_with (first | ((with_reducible refine at_load 61 ?_); refine wpList_load_part rfl 61 _ rfl (w.heap.size) (0) rfl _ (A) _ _ 25 (hgp) Try.underlying61 rfl (by kernel_rfl) (by rw [HSZ.out]; omega) (A) (HEX.out) ?_) | (go_at_call 64; (with_reducible refine (cm.out _).mono ?_); rintro e w1 ⟨rfl, hb1⟩; have cp1 := cellF (Ytobokknfpjjdeaa.kept hb1 hgp)) | (go_at_call 70; (with_reducible refine (HP.out _ (HH.out.kept hb1)).mono ?_); rintro e w2 ⟨rfl, rfl⟩))
  have HG1 := Lib.hid (HH.out.kept hb1).row
  have HX1 := Lib.hid (Ytobokknfpjjdeaa.kept hb1 hgp)
  refine wp_region_below (by kernel_rfl) (by kernel_rfl) ?_
  repeat (first | ((with_reducible apply q_skip); (case hw => rfl); (try simp only [Act.put, List.setIfInBounds_toArray, List.set_cons_zero, List.set_cons_succ, hd1])) | ((with_reducible apply q_val); (case hw => rfl); (case hv => intro wq hbq; have hcL := cellF (Ytobokknfpjjdeaa.kept hbq HG1.out); have hcA := cellF (Ytobokknfpjjdeaa.kept hbq HX1.out); go_simp; try rfl); (try simp only [Act.put, List.setIfInBounds_toArray, List.set_cons_zero, List.set_cons_succ, hd1])))
  refine q_nil ?_
  intro w4 hb4
  have HG4 := Lib.hid (Ytobokknfpjjdeaa.kept hb4 HG1.out)
  have HX4 := Lib.hid (Ytobokknfpjjdeaa.kept hb4 HX1.out)
  have HB4 := Lib.hid (below_then (below_then hb0 hb1) hb4)
  have cg4 := cellF HG4.out
  clear hb4 hb1 HG1 HX1 hd1 cp1 hb0 cm HP
  go_wp2
  go_loopg [5] k (fun gh v5 wr => ∃ j : Nat, j ≤ pi ∧ gh = k - j ∧ v5 = .int .i64 j ∧ Below w4.heap.size w4 wr)
  case atStart => exact ⟨0, by omega, by omega, rfl, Below.refl _ _⟩
  case round =>
    obtain ⟨j, hj, rfl, rfl, hb⟩ := hrel
    have HG1 := Lib.hid (Ytobokknfpjjdeaa.kept hb HG4.out)
    have HX1 := Lib.hid (Ytobokknfpjjdeaa.kept hb HX4.out)
    have HBR := Lib.hid hb
    by_cases hjp : j < pi
    · have hjki : (j : Int) < k := by omega
      obtain ⟨gr, off, B, fr, rfl, hgr, hsr, her⟩ := (rowsT_kept HR.out (below_then HB4.out hb)) j (by omega)
      have hc0 : B[off + j * 27]? = some (.int .u32 (N (L j) 0)) := by
        rw [← (HC.out j).c0.1, ← her, Array.getElem?_extract, if_pos (by omega)]; rfl
      have hd1 : decide (N (L j) 0 < N A 0) = true := decide_eq_true (HLT.out j hjp)
      clear hb
      generalize N (L j) 0 = x at *
      go_wp2
      refine wp_region_below (by kernel_rfl) (by kernel_rfl) ?_
      repeat (first | ((with_reducible apply q_skip); (case hw => rfl); (try simp only [Act.put, List.setIfInBounds_toArray, List.set_cons_zero, List.set_cons_succ, hd1])) | ((with_reducible apply q_val); (case hw => rfl); (case hv => intro wq hbq; have hcL := cellF (Ytobokknfpjjdeaa.kept hbq HG1.out); have hcA := cellF (Ytobokknfpjjdeaa.kept hbq HX1.out); have hcB := cellF (Ytobokknfpjjdeaa.kept hbq hgr); go_simp; try rfl); (try simp only [Act.put, List.setIfInBounds_toArray, List.set_cons_zero, List.set_cons_succ, hd1])))
      refine q_nil ?_
      intro w4 hb4
      go_wp2
      go_roundg (k - (j + 1))
      case measure => omega
      case rel => exact ⟨j + 1, by omega, rfl, by go_num, below_then HBR.out hb4⟩
    · obtain rfl : j = pi := by omega
      clear hb
      by_cases hjk : j < k
      · have hjki : (j : Int) < k := by omega
        obtain ⟨gr, off, B, fr, rfl, hgr, hsr, her⟩ := (rowsT_kept HR.out (below_then HB4.out HBR.out)) j (by omega)
        have hc0 : B[off + j * 27]? = some (.int .u32 (N (L j) 0)) := by
          rw [← (HC.out j).c0.1, ← her, Array.getElem?_extract, if_pos (by omega)]; rfl
        have hd1 : decide (N (L j) 0 < N A 0) = false := decide_eq_false (by have := HGE.out j (Nat.le_refl _) hjk; omega)
        generalize N (L j) 0 = x at *
        go_wp2
        refine wp_region_below (by kernel_rfl) (by kernel_rfl) ?_
        repeat (first | ((with_reducible apply q_skip); (case hw => rfl); (try simp only [Act.put, List.setIfInBounds_toArray, List.set_cons_zero, List.set_cons_succ, hd1])) | ((with_reducible apply q_val); (case hw => rfl); (case hv => intro wq hbq; have hcL := cellF (Ytobokknfpjjdeaa.kept hbq HG1.out); have hcA := cellF (Ytobokknfpjjdeaa.kept hbq HX1.out); have hcB := cellF (Ytobokknfpjjdeaa.kept hbq hgr); go_simp; try rfl); (try simp only [Act.put, List.setIfInBounds_toArray, List.set_cons_zero, List.set_cons_succ, hd1])))
        refine q_nil ?_
        intro w4 hb4
        have hb4' := below_then (below_then HB4.out HBR.out) (below_alloc hb4 (Obj.cells #[] 65))
        have HRc := Lib.hid (show RowsC (w4.alloc (Obj.cells #[] 65)) 27 (some ⟨gr, off, none⟩) j L from fun i hi => by
          obtain ⟨g1, o1, A1, f1, r⟩ := (rowsT_kept HR.out hb4') i (by omega)
          exact ⟨g1, o1, A1, _, f1, r⟩)
        have HZ2 := Lib.hid (show (some (⟨gr, off, none⟩ : Addr)) = none → j = 0 ∧ rc = 0 from fun h => by cases h)
        have HRB := Lib.hid (fun (wB : World) (hB : Below w4.heap.size w4 wB) => show RowsC wB 27 (some ⟨gr, off + j * 27, none⟩) (k - j) (fun i => L (j + i)) from fun i hi => by
          obtain ⟨g1, o1, A1, f1, e1, r1, r2, r3⟩ := (rowsT_kept HR.out (below_then (below_then (below_then HB4.out HBR.out) hb4) hB)) (j + i) (by omega)
          cases e1
          exact ⟨_, _, A1, _, f1, rfl, r1, by rw [show off + j * 27 + i * 27 = off + (j + i) * 27 by omega]; exact r2, by rw [show off + j * 27 + i * 27 = off + (j + i) * 27 by omega]; exact r3⟩)
        clear hb4' hgr hc0
        have HGc := Lib.hid (Ytobokknfpjjdeaa.kept hb4 HG1.out)
        have HXc := Lib.hid (Ytobokknfpjjdeaa.kept hb4 HX1.out)
        have HBc := Lib.hid (below_then (below_then HB4.out HBR.out) hb4)
        clear hb4 HG1 HX1 HBR HG4 HX4 HB4 hd1
        have cgc := cellF (heap_up (o := Obj.cells #[] 65) HGc.out)
        go_wp2_with (first
          | ((with_reducible refine at_append 62 ?_); refine wpList_append_con2 rfl _ _ rfl w4.heap.size (.slice (some ⟨w4.heap.size, 0, none⟩) 0 0) 0 [] rfl (own_empty_t w4 _ _) _ j rc L HC.out rfl HRc.out HZ2.out (by omega) (by omega) (by simp) ?_; intro vA wA hoA hgA; rw [Nat.zero_add, List.nil_append] at hoA; have HOA := Lib.hid hoA; have hbA : Below w4.heap.size w4 wA := (below_new w4 (Obj.cells #[] 65)).grown hgA (by simp) (fun j e => by have e : w4.heap.size = j := Option.some.inj e; omega); have HBA := Lib.hid hbA; have hxA := Ytobokknfpjjdeaa.kept hbA HXc.out; have cxA := cellF hxA; clear hgA hoA hbA) | ((with_reducible refine at_load 61 ?_); refine wpList_load_part rfl 61 _ rfl (w.heap.size) (0) rfl _ (A) _ _ 25 (hxA) Try.underlying61 rfl (by kernel_rfl) (by rw [HSZ.out]; omega) (A) (HEX.out) ?_) | ((with_reducible refine at_build 65 ?_); refine wpList_build_named rfl 65 _ rfl (conA A (N A 24)) (by have hbu := HBU.out; simpa [Act.eval] using hbu) ?_) | ((with_reducible refine at_slice1 62 ?_); obtain ⟨ip, zp, ip1, ip2, ip3, ip4, ip5⟩ := info_con; refine wpList_slice1c rfl 62 65 _ rfl (conA A (N A 24)) 27 rfl HB.out.size ip zp Try.underlying62 ip1 ip2 ip3 ip5 (by omega) (by omega) ?_; clear ip1 ip2 ip3 ip4 ip5) | ((with_reducible refine at_append 62 ?_); refine wpList_append_con2 rfl _ _ rfl w4.heap.size vA j (flat L j) rfl (HOA.out.alloc _) (some ⟨wA.heap.size, 0, none⟩) 1 1 (fun _ => conA A (N A 24)) (fun _ => HB.out) rfl (one_row HB.out.size) (fun h => by cases h) (by omega) (by omega) (by have := HBA.out.size; simp; omega) ?_; intro vB wB hoB hgB; have HOB := Lib.hid hoB; have hbB : Below w4.heap.size w4 wB := (below_alloc HBA.out (Obj.cells (conA A (N A 24)) 65)).grown hgB (by have := HBA.out.size; simp; omega) (fun j e => (HOA.out.lt j e).1); have HBB := Lib.hid hbB; have hgB2 := Ytobokknfpjjdeaa.kept hbB HGc.out; have cgB := cellF hgB2; clear hgB hoB hbB) | ((with_reducible refine at_append 62 ?_); refine wpList_append_con2 rfl _ _ rfl w4.heap.size vB (j + 1) (flat L j ++ flat (fun _ => conA A (N A 24)) 1) rfl HOB.out _ (k - j) _ (fun i => L (j + i)) (fun i => HC.out _) rfl (HRB.out wB HBB.out) (fun h => by first | (cases h; done) | exact ⟨rfl, rfl⟩ | exact ⟨by omega, rfl⟩) (by omega) (by omega) (by have := HBB.out.size; omega) ?_; intro vC wC hoC hgC; obtain ⟨aC, cC, rfl⟩ := own_form hoC; have HOC := Lib.hid hoC; have hbC : Below w4.heap.size w4 wC := HBB.out.grown hgC (by have := HBB.out.size; omega) (fun j e => (HOB.out.lt j e).1); have HBC := Lib.hid hbC; have hgC2 := Ytobokknfpjjdeaa.kept hbC HGc.out; have cgC := cellF hgC2; have fgC := (cells_of hgC2).2.1; clear hgC hoC hbC))
        go_ret
        exact ⟨rfl, rl_fin HI.out HBc.out HBC.out HOC.out HB.out (by omega) (fun i hi => by rw [HN0.out]; exact HLT.out i hi) (fun i h1 h2 => by rw [HN0.out]; exact HGE.out i h1 h2) hk⟩
      · obtain rfl : j = k := by omega
        have hd1 : decide ((0:Int) < 0) = false := by decide
        go_wp2
        refine wp_region_below (by kernel_rfl) (by kernel_rfl) ?_
        repeat (first | ((with_reducible apply q_skip); (case hw => rfl); (try simp only [Act.put, List.setIfInBounds_toArray, List.set_cons_zero, List.set_cons_succ, hd1])) | ((with_reducible apply q_val); (case hw => rfl); (case hv => intro wq hbq; have hcL := cellF (Ytobokknfpjjdeaa.kept hbq HG1.out); have hcA := cellF (Ytobokknfpjjdeaa.kept hbq HX1.out); go_simp; try rfl); (try simp only [Act.put, List.setIfInBounds_toArray, List.set_cons_zero, List.set_cons_succ, hd1])))
        refine q_nil ?_
        intro w4 hb4
        have hb4' := below_then (below_then HB4.out HBR.out) (below_alloc hb4 (Obj.cells #[] 65))
        have HRc := Lib.hid (show RowsC (w4.alloc (Obj.cells #[] 65)) 27 ra j L from fun i hi => by
          obtain ⟨g1, o1, A1, f1, r⟩ := (rowsT_kept HR.out hb4') i (by omega)
          exact ⟨g1, o1, A1, _, f1, r⟩)
        have HRB := Lib.hid (fun (wB : World) (hB : Below w4.heap.size w4 wB) (ax : Option Addr) => show RowsC wB 27 ax 0 (fun i => L (j + i)) from fun i hi => by omega)
        clear hb4'
        obtain ⟨_, ⟨e1, e2⟩ | ⟨gb, cap, cur, e1, _⟩⟩ := HI.out.own
        · obtain ⟨rfl, rfl⟩ : ra = none ∧ rc = 0 := by
            first
              | (injection e1 with h1 h2 h3; exact ⟨h1, h3⟩)
              | (injection e2 with h1 h2 h3; exact ⟨h1, h3⟩)
          obtain rfl : j = 0 := (HZ.out rfl).1
          have HZ2 := Lib.hid (show (none : Option Addr) = none → 0 = 0 ∧ 0 = 0 from fun _ => ⟨rfl, rfl⟩)
          have HGc := Lib.hid (Ytobokknfpjjdeaa.kept hb4 HG1.out)
          have HXc := Lib.hid (Ytobokknfpjjdeaa.kept hb4 HX1.out)
          have HBc := Lib.hid (below_then (below_then HB4.out HBR.out) hb4)
          clear hb4 HG1 HX1 HBR HG4 HX4 HB4 hd1
          have cgc := cellF (heap_up (o := Obj.cells #[] 65) HGc.out)
          go_wp2_with (first
            | ((with_reducible refine at_append 62 ?_); refine wpList_append_con2 rfl _ _ rfl w4.heap.size (.slice (some ⟨w4.heap.size, 0, none⟩) 0 0) 0 [] rfl (own_empty_t w4 _ _) _ 0 0 L HC.out rfl HRc.out HZ2.out (by omega) (by omega) (by simp) ?_; intro vA wA hoA hgA; rw [Nat.zero_add, List.nil_append] at hoA; have HOA := Lib.hid hoA; have hbA : Below w4.heap.size w4 wA := (below_new w4 (Obj.cells #[] 65)).grown hgA (by simp) (fun j e => by have e : w4.heap.size = j := Option.some.inj e; omega); have HBA := Lib.hid hbA; have hxA := Ytobokknfpjjdeaa.kept hbA HXc.out; have cxA := cellF hxA; clear hgA hoA hbA) | ((with_reducible refine at_load 61 ?_); refine wpList_load_part rfl 61 _ rfl (w.heap.size) (0) rfl _ (A) _ _ 25 (hxA) Try.underlying61 rfl (by kernel_rfl) (by rw [HSZ.out]; omega) (A) (HEX.out) ?_) | ((with_reducible refine at_build 65 ?_); refine wpList_build_named rfl 65 _ rfl (conA A (N A 24)) (by have hbu := HBU.out; simpa [Act.eval] using hbu) ?_) | ((with_reducible refine at_slice1 62 ?_); obtain ⟨ip, zp, ip1, ip2, ip3, ip4, ip5⟩ := info_con; refine wpList_slice1c rfl 62 65 _ rfl (conA A (N A 24)) 27 rfl HB.out.size ip zp Try.underlying62 ip1 ip2 ip3 ip5 (by omega) (by omega) ?_; clear ip1 ip2 ip3 ip4 ip5) | ((with_reducible refine at_append 62 ?_); refine wpList_append_con2 rfl _ _ rfl w4.heap.size vA 0 (flat L 0) rfl (HOA.out.alloc _) (some ⟨wA.heap.size, 0, none⟩) 1 1 (fun _ => conA A (N A 24)) (fun _ => HB.out) rfl (one_row HB.out.size) (fun h => by cases h) (by omega) (by omega) (by have := HBA.out.size; simp; omega) ?_; intro vB wB hoB hgB; have HOB := Lib.hid hoB; have hbB : Below w4.heap.size w4 wB := (below_alloc HBA.out (Obj.cells (conA A (N A 24)) 65)).grown hgB (by have := HBA.out.size; simp; omega) (fun j e => (HOA.out.lt j e).1); have HBB := Lib.hid hbB; have hgB2 := Ytobokknfpjjdeaa.kept hbB HGc.out; have cgB := cellF hgB2; clear hgB hoB hbB) | ((with_reducible refine at_append 62 ?_); refine wpList_append_con2 rfl _ _ rfl w4.heap.size vB (0 + 1) (flat L 0 ++ flat (fun _ => conA A (N A 24)) 1) rfl HOB.out _ 0 _ (fun i => L (0 + i)) (fun i => HC.out _) rfl (HRB.out wB HBB.out _) (fun h => by first | (cases h; done) | exact ⟨rfl, rfl⟩ | exact ⟨by omega, rfl⟩) (by omega) (by omega) (by have := HBB.out.size; omega) ?_; intro vC wC hoC hgC; obtain ⟨aC, cC, rfl⟩ := own_form hoC; have HOC := Lib.hid hoC; have hbC : Below w4.heap.size w4 wC := HBB.out.grown hgC (by have := HBB.out.size; omega) (fun j e => (HOB.out.lt j e).1); have HBC := Lib.hid hbC; have hgC2 := Ytobokknfpjjdeaa.kept hbC HGc.out; have cgC := cellF hgC2; have fgC := (cells_of hgC2).2.1; clear hgC hoC hbC))
          go_ret
          exact ⟨rfl, rl_fin HI.out HBc.out HBC.out HOC.out HB.out (by omega) (fun i hi => by rw [HN0.out]; exact HLT.out i hi) (fun i h1 h2 => by rw [HN0.out]; exact HGE.out i h1 h2) hk⟩
        · obtain ⟨rfl, rfl⟩ : ra = some ⟨gb, 0, none⟩ ∧ rc = cap := by injection e1 with h1 h2 h3; exact ⟨h1, h3⟩
          have HZ2 := Lib.hid (show (some (⟨gb, 0, none⟩ : Addr)) = none → j = 0 ∧ rc = 0 from fun h => by cases h)
          by_cases hcr : j = rc
          · subst hcr
            have HGc := Lib.hid (Ytobokknfpjjdeaa.kept hb4 HG1.out)
            have HXc := Lib.hid (Ytobokknfpjjdeaa.kept hb4 HX1.out)
            have HBc := Lib.hid (below_then (below_then HB4.out HBR.out) hb4)
            clear hb4 HG1 HX1 HBR HG4 HX4 HB4 hd1
            have cgc := cellF (heap_up (o := Obj.cells #[] 65) HGc.out)
            go_wp2_with (first
              | ((with_reducible refine at_append 62 ?_); refine wpList_append_con2 rfl _ _ rfl w4.heap.size (.slice (some ⟨w4.heap.size, 0, none⟩) 0 0) 0 [] rfl (own_empty_t w4 _ _) _ j j L HC.out rfl HRc.out HZ2.out (by omega) (by omega) (by simp) ?_; intro vA wA hoA hgA; rw [Nat.zero_add, List.nil_append] at hoA; have HOA := Lib.hid hoA; have hbA : Below w4.heap.size w4 wA := (below_new w4 (Obj.cells #[] 65)).grown hgA (by simp) (fun j e => by have e : w4.heap.size = j := Option.some.inj e; omega); have HBA := Lib.hid hbA; have hxA := Ytobokknfpjjdeaa.kept hbA HXc.out; have cxA := cellF hxA; clear hgA hoA hbA) | ((with_reducible refine at_load 61 ?_); refine wpList_load_part rfl 61 _ rfl (w.heap.size) (0) rfl _ (A) _ _ 25 (hxA) Try.underlying61 rfl (by kernel_rfl) (by rw [HSZ.out]; omega) (A) (HEX.out) ?_) | ((with_reducible refine at_build 65 ?_); refine wpList_build_named rfl 65 _ rfl (conA A (N A 24)) (by have hbu := HBU.out; simpa [Act.eval] using hbu) ?_) | ((with_reducible refine at_slice1 62 ?_); obtain ⟨ip, zp, ip1, ip2, ip3, ip4, ip5⟩ := info_con; refine wpList_slice1c rfl 62 65 _ rfl (conA A (N A 24)) 27 rfl HB.out.size ip zp Try.underlying62 ip1 ip2 ip3 ip5 (by omega) (by omega) ?_; clear ip1 ip2 ip3 ip4 ip5) | ((with_reducible refine at_append 62 ?_); refine wpList_append_con2 rfl _ _ rfl w4.heap.size vA j (flat L j) rfl (HOA.out.alloc _) (some ⟨wA.heap.size, 0, none⟩) 1 1 (fun _ => conA A (N A 24)) (fun _ => HB.out) rfl (one_row HB.out.size) (fun h => by cases h) (by omega) (by omega) (by have := HBA.out.size; simp; omega) ?_; intro vB wB hoB hgB; have HOB := Lib.hid hoB; have hbB : Below w4.heap.size w4 wB := (below_alloc HBA.out (Obj.cells (conA A (N A 24)) 65)).grown hgB (by have := HBA.out.size; simp; omega) (fun j e => (HOA.out.lt j e).1); have HBB := Lib.hid hbB; have hgB2 := Ytobokknfpjjdeaa.kept hbB HGc.out; have cgB := cellF hgB2; clear hgB hoB hbB) | ((with_reducible refine at_append 62 ?_); refine stop_at ?_))
            refine ⟨?_⟩
            refine wpList_append_con2 rfl _ _ rfl w4.heap.size vB (j + 1) (flat L j ++ flat (fun _ => conA A (N A 24)) 1) rfl HOB.out _ 0 _ (fun i => L (j + i)) (fun i => HC.out _) rfl (HRB.out wB HBB.out _) (fun h => by first | (cases h;done) | exact ⟨rfl, rfl⟩ | exact ⟨by omega, rfl⟩) (by omega) (by omega) (by have := HBB.out.size;omega) ?_
            intro vC wC hoC hgC
            obtain ⟨aC, cC, rfl⟩ := own_form hoC
            have HOC := Lib.hid hoC
            have hbC : Below w4.heap.size w4 wC := HBB.out.grown hgC (by have := HBB.out.size;omega) (fun j e => (HOB.out.lt j e).1)
            have HBC := Lib.hid hbC
            have hgC2 := Ytobokknfpjjdeaa.kept hbC HGc.out
            have cgC := cellF hgC2
            have fgC := (cells_of hgC2).2.1
            clear hgC hoC hbC
            go_wp2
            go_ret
            exact ⟨rfl, rl_fin HI.out HBc.out HBC.out (by rw [Nat.sub_self]; exact HOC.out) HB.out (by omega) (fun i hi => by rw [HN0.out]; exact HLT.out i hi) (fun i h1 h2 => by rw [HN0.out]; exact HGE.out i h1 h2) hk⟩
          ·
            have HGc := Lib.hid (Ytobokknfpjjdeaa.kept hb4 HG1.out)
            have HXc := Lib.hid (Ytobokknfpjjdeaa.kept hb4 HX1.out)
            have HBc := Lib.hid (below_then (below_then HB4.out HBR.out) hb4)
            clear hb4 HG1 HX1 HBR HG4 HX4 HB4 hd1
            have cgc := cellF (heap_up (o := Obj.cells #[] 65) HGc.out)
            go_wp2_with (first
              | ((with_reducible refine at_append 62 ?_); refine wpList_append_con2 rfl _ _ rfl w4.heap.size (.slice (some ⟨w4.heap.size, 0, none⟩) 0 0) 0 [] rfl (own_empty_t w4 _ _) _ j rc L HC.out rfl HRc.out HZ2.out (by omega) (by omega) (by simp) ?_; intro vA wA hoA hgA; rw [Nat.zero_add, List.nil_append] at hoA; have HOA := Lib.hid hoA; have hbA : Below w4.heap.size w4 wA := (below_new w4 (Obj.cells #[] 65)).grown hgA (by simp) (fun j e => by have e : w4.heap.size = j := Option.some.inj e; omega); have HBA := Lib.hid hbA; have hxA := Ytobokknfpjjdeaa.kept hbA HXc.out; have cxA := cellF hxA; clear hgA hoA hbA) | ((with_reducible refine at_load 61 ?_); refine wpList_load_part rfl 61 _ rfl (w.heap.size) (0) rfl _ (A) _ _ 25 (hxA) Try.underlying61 rfl (by kernel_rfl) (by rw [HSZ.out]; omega) (A) (HEX.out) ?_) | ((with_reducible refine at_build 65 ?_); refine wpList_build_named rfl 65 _ rfl (conA A (N A 24)) (by have hbu := HBU.out; simpa [Act.eval] using hbu) ?_) | ((with_reducible refine at_slice1 62 ?_); obtain ⟨ip, zp, ip1, ip2, ip3, ip4, ip5⟩ := info_con; refine wpList_slice1c rfl 62 65 _ rfl (conA A (N A 24)) 27 rfl HB.out.size ip zp Try.underlying62 ip1 ip2 ip3 ip5 (by omega) (by omega) ?_; clear ip1 ip2 ip3 ip4 ip5) | ((with_reducible refine at_append 62 ?_); refine wpList_append_con2 rfl _ _ rfl w4.heap.size vA j (flat L j) rfl (HOA.out.alloc _) (some ⟨wA.heap.size, 0, none⟩) 1 1 (fun _ => conA A (N A 24)) (fun _ => HB.out) rfl (one_row HB.out.size) (fun h => by cases h) (by omega) (by omega) (by have := HBA.out.size; simp; omega) ?_; intro vB wB hoB hgB; have HOB := Lib.hid hoB; have hbB : Below w4.heap.size w4 wB := (below_alloc HBA.out (Obj.cells (conA A (N A 24)) 65)).grown hgB (by have := HBA.out.size; simp; omega) (fun j e => (HOA.out.lt j e).1); have HBB := Lib.hid hbB; have hgB2 := Ytobokknfpjjdeaa.kept hbB HGc.out; have cgB := cellF hgB2; clear hgB hoB hbB) | ((with_reducible refine at_append 62 ?_); refine stop_at ?_))
            refine ⟨?_⟩
            refine wpList_append_con2 rfl _ _ rfl w4.heap.size vB (j + 1) (flat L j ++ flat (fun _ => conA A (N A 24)) 1) rfl HOB.out _ 0 _ (fun i => L (j + i)) (fun i => HC.out _) rfl (HRB.out wB HBB.out _) (fun h => by first | (cases h;done) | exact ⟨rfl, rfl⟩ | exact ⟨by omega, rfl⟩) (by omega) (by omega) (by have := HBB.out.size;omega) ?_
            intro vC wC hoC hgC
            obtain ⟨aC, cC, rfl⟩ := own_form hoC
            have HOC := Lib.hid hoC
            have hbC : Below w4.heap.size w4 wC := HBB.out.grown hgC (by have := HBB.out.size;omega) (fun j e => (HOB.out.lt j e).1)
            have HBC := Lib.hid hbC
            have hgC2 := Ytobokknfpjjdeaa.kept hbC HGc.out
            have cgC := cellF hgC2
            have fgC := (cells_of hgC2).2.1
            clear hgC hoC hbC
            go_wp2
            go_ret
            exact ⟨rfl, rl_fin HI.out HBc.out HBC.out (by rw [Nat.sub_self]; exact HOC.out) HB.out (by omega) (fun i hi => by rw [HN0.out]; exact HLT.out i hi) (fun i h1 h2 => by rw [HN0.out]; exact HGE.out i h1 h2) hk⟩
end Go.Proofs.Ytobokknfpjjdeaa
