/- A calendar made of a day and contracts: calendar's and the document's. Condition: the numbers fit their kinds. -/
import Derived.Test.YtobokknfpjjdeaaSame05
import Derived.Test.YtobokknfpjjdeaaRef04
import Derived.Test.YtobokknfpjjdeaaRowsG
import Derived.Lib.SmallJoins
namespace Go.Proofs.Ytobokknfpjjdeaa
set_option linter.unusedVariables false
set_option linter.unusedSimpArgs false
open Go.RowKit

/-- a contract that may stand behind the one ahead of it -/
def fOk (L : Nat → Array Value) (k : Nat) : Bool := decide ((if k = 0 then 0 else N (L (k - 1)) 0) < N (L k) 0) && (decide (1 ≤ N (L k) 25) && (decide (N (L k) 25 ≤ 3) && ipB ((L k).extract 0 25) (N (L k) 26)))
def fmay (L : Nat → Array Value) : Nat → Bool
  | 0 => true
  | k + 1 => fmay L k && fOk L k
theorem fmay_le {L : Nat → Array Value} : ∀ n, fmay L n = true → ∀ k, k ≤ n → fmay L k = true
  | 0, _, k, hk => by rw [Nat.le_zero.1 hk]; rfl
  | n + 1, h, k, hk => by
    by_cases e : k = n + 1
    · subst e; exact h
    · have h2 : (fmay L n && fOk L n) = true := h
      rw [Bool.and_eq_true] at h2
      exact fmay_le n h2.1 k (by omega)
theorem fmay_at {L : Nat → Array Value} {n k : Nat} (h : fmay L n = true) (hk : k < n) : fOk L k = true := by
  have h2 : (fmay L k && fOk L k) = true := fmay_le n h (k + 1) (by omega)
  rw [Bool.and_eq_true] at h2
  exact h2.2
theorem fmay_no {L : Nat → Array Value} {k : Nat} (n : Nat) (hk : k < n) (h : fOk L k = false) : fmay L n = false := by
  rw [Bool.eq_false_iff]; intro ht; rw [fmay_at ht hk] at h; cases h
theorem fmay_next {L : Nat → Array Value} {k : Nat} (h : fmay L k = true) (h2 : fOk L k = true) : fmay L (k + 1) = true := by
  show (fmay L k && fOk L k) = true
  rw [h, h2]; rfl
theorem fmay_srt {L : Nat → Array Value} {n : Nat} (h : fmay L n = true) : ∀ j i, i < j → j < n → N (L i) 0 < N (L j) 0
  | 0, i, hi, _ => by omega
  | j + 1, i, hi, hj => by
    have h1 := fmay_at h hj
    unfold fOk at h1
    rw [Bool.and_eq_true, decide_eq_true_iff, if_neg (by omega)] at h1
    have h2 : N (L j) 0 < N (L (j + 1)) 0 := h1.1
    by_cases e : i = j
    · subst e; exact h2
    · have := fmay_srt h j i (by omega) (by omega); omega
/-- the error -/
def fE (L : Nat → Array Value) (n : Nat) : Int := if 16 < n then 2 else if fmay L n = false then 2 else 0
/-- the document's calendar, its row its own -/
structure RefIs (w : World) (g base k : Nat) (day : Int) (L : Nat → Array Value) : Prop where
  row : ∃ v, w.heap[g]? = some (.cells #[.int .u32 day, v] 89 (0, 0)) ∧ w.ownsRow base 65 27 v k (flat L k)
  bg : base ≤ g
theorem RefIs.kept {w w' : World} {g base k : Nat} {day : Int} {L : Nat → Array Value} (h : RefIs w g base k day L) (hb : Below w.heap.size w w') : RefIs w' g base k day L := by
  obtain ⟨v, hg, hr⟩ := h.row
  exact ⟨⟨v, Ytobokknfpjjdeaa.kept hb hg, own_below hb hr⟩, h.bg⟩
theorem RefIs.cal {w : World} {g base k : Nat} {day : Int} {L : Nat → Array Value} (h : RefIs w g base k day L) (hL : ∀ i, IsCon (L i)) : RCal w g k day L := by
  obtain ⟨v, hg, hr⟩ := h.row
  obtain ⟨a, cap, rfl, hR, _⟩ := own_rows (fun i => (hL i).size) hr
  exact ⟨a, cap, hg, fun i hi => by
    obtain ⟨g', off, A, fr, h1, h2, h3, h4⟩ := hR i hi
    exact ⟨g', off, A, _, fr, h1, h2, h3, h4⟩⟩
def CFromC (a : Option Addr) (n cap : Nat) (L : Nat → Array Value) (day : Int) (w : World) : Prop :=
  Calls Try.prog 31 #[.int .u32 day, .slice a n cap] w fun e w' => ((fE L n = 0 ∧ ∃ g, e = .returned (.tuple #[.pointer (some ⟨g, 0, none⟩), .int .i64 0]) ∧ CalIs w' g w.heap.size n day L) ∨ (fE L n = 2 ∧ e = .returned (.tuple #[.pointer none, .int .i64 2]))) ∧ Below w.heap.size w w'
def RFromC (a : Option Addr) (n cap : Nat) (L : Nat → Array Value) (day : Int) (w : World) : Prop :=
  Calls Try.prog 32 #[.int .u32 day, .slice a n cap] w fun e w' => ((fE L n = 0 ∧ ∃ g, e = .returned (.tuple #[.pointer (some ⟨g, 0, none⟩), .int .i64 0]) ∧ RefIs w' g w.heap.size n day L) ∨ (fE L n = 2 ∧ e = .returned (.tuple #[.pointer none, .int .i64 2]))) ∧ Below w.heap.size w w'

theorem info_conI : ∃ i z, Try.prog.info? 65 = some i ∧ i.zero = some z ∧ i.size = 27 ∧ i.bytes ≤ 1000 ∧ z.cells.size = 27 := by
  obtain ⟨i, z, h1, h2, h3, h4, h5⟩ := info_con
  exact ⟨i, z, h1, h2, h3, by omega, h5⟩
theorem RowsC.keptB {w w' : World} {c n : Nat} {a : Option Addr} {L : Nat → Array Value} (h : RowsC w c a n L) (hb : Below w.heap.size w w') : RowsC w' c a n L := h.kept hb
/-- 'append(own, contracts...)', the own one empty -/
theorem wpList_append_con {ops : Array Oper} {rest : List Oper} {o : Oper} {a : Act} {w : World} {Q : Exit → Act → World → Prop} (hgd : o.guard = none) (s x : Operand)
    (ho : o.op = .call { callee := .builtin .append, args := #[s, x], argTypes := #[62, 62] })
    (base : Nat) (v : Value) (hs : a.eval s = v) (hown : w.ownsRow base 65 27 v 0 [])
    (ad : Option Addr) (m cp : Nat) (L : Nat → Array Value) (hL : ∀ i, IsCon (L i)) (hx : a.eval x = .slice ad m cp) (hl : RowsC w 27 ad m L) (hnil : ad = none → m = 0 ∧ cp = 0)
    (hm : m ≤ 1000) (hbase : base ≤ w.heap.size)
    (h : ∀ v' w', w'.ownsRow base 65 27 v' m (flat L m) → w.grownBy w' v.ownBlock → wpList Try.prog ops Q rest (a.put o.dst v') w') : wpList Try.prog ops Q (o :: rest) a w := by
  obtain ⟨i, z, h1, h2, h3, h4, h5⟩ := info_conI
  cases ad with
  | none =>
    obtain ⟨rfl, rfl⟩ := hnil rfl
    refine wpList_append_own_none hgd s x _ ho base _ i 27 Try.underlying62 h1 v 0 [] hs hown hx ?_
    exact h v w hown ⟨rfl, rfl, rfl, Nat.le_refl _, fun _ _ _ => rfl⟩
  | some ad =>
    refine wpList_append_own w hgd s x _ ho base _ i z 27 i.bytes Try.underlying62 h1 h2 h3 rfl h5 (by omega) v 0 [] hs hown ad m cp (flat L m) hx (flatc_len (fun i => (hL i).size) m) (rows_at (by omega) (fun i => (hL i).size) (fun i hi => by obtain ⟨g, off, A, t, fr, r⟩ := hl i hi; exact ⟨g, off, A, t, fr, r⟩)) (flatc_one (fun i => (hL i).all) m) (by unfold maxLen; omega) ?_ hbase ?_
    · have := Nat.mul_le_mul (show 0 + m ≤ 1000 by omega) h4
      omega
    · intro v' w' h6 h7 _
      rw [Nat.zero_add, List.nil_append] at h6
      exact h v' w' h6 h7

set_option maxRecDepth 100000 in
set_option maxHeartbeats 4000000 in
theorem cfrom_any (a : Option Addr) (n cap : Nat) (L : Nat → Array Value) (day : Int) (w : World) (hd : 0 ≤ day ∧ day ≤ 4294967295) (hL : ∀ i, IsCon (L i)) (hA : RowsT w 65 27 a n L) (hz : a = none → n = 0 ∧ cap = 0) : CFromC a n cap L day w := by
  unfold CFromC
  by_cases hn : 16 < n
  · have he : fE L n = 2 := if_pos hn
    have hni : (16 : Int) < n := by omega
    have HE := Lib.hid he
    clear he hL hA hz
    go_enter Try.func31, Try.ntmps31
    go_wp2
    go_ret2
    exact ⟨.inr ⟨HE.out, rfl⟩, Below.refl _ _⟩
  · have hni : ¬ (16 : Int) < n := by omega
    have HL := Lib.hid hL
    have HA := Lib.hid hA
    have HZ := Lib.hid hz
    have HE1 := Lib.hid (show fmay L n = false → fE L n = 2 from fun h => by unfold fE; rw [if_neg hn, if_pos h])
    have HE0 := Lib.hid (show fmay L n = true → fE L n = 0 from fun h => by unfold fE; rw [if_neg hn, h, if_neg (by simp)])
    have HD := Lib.hid hd
    clear hL hA hz
    go_enter Try.func31, Try.ntmps31
    go_wp2
    go_loopg [6, 14] n (fun gh v6 v14 wr => ∃ k : Nat, k ≤ n ∧ gh = n - k ∧ v14 = .int .i64 k ∧ v6 = .int .u32 (if k = 0 then 0 else N (L (k - 1)) 0) ∧ fmay L k = true ∧ Below w.heap.size w wr)
    case atStart => exact ⟨0, by omega, by omega, rfl, rfl, rfl, Below.refl _ _⟩
    case round =>
      obtain ⟨k, hk, rfl, rfl, rfl, hm, hbw⟩ := hrel
      have HM := Lib.hid hm
      have HW := Lib.hid hbw
      clear hm hbw
      obtain ⟨l, hl⟩ : ∃ l, l = (if k = 0 then 0 else N (L (k - 1)) 0) := ⟨_, rfl⟩
      rw [← hl]
      by_cases hlt : k < n
      · obtain ⟨g, off, B, fr, rfl, hg, hs, he⟩ := (rowsT_kept HA.out HW.out) k hlt
        have hki : (k : Int) < n := by omega
        have HNX := Lib.hid (show (if k + 1 = 0 then 0 else N (L (k + 1 - 1)) 0) = N (L k) 0 from by rw [if_neg (by omega)]; rfl)
        have hlb : 0 ≤ l ∧ l ≤ 4294967295 := by
          rw [hl]
          split
          · omega
          · exact (HL.out (k - 1)).c0.2
        have hex : B.extract (off + k * 27) (off + k * 27 + 27) = L k := he
        have hC := HL.out k
        obtain ⟨n0, hn0, hn0'⟩ := hC.c0
        obtain ⟨n25, hn25, hn25'⟩ := hC.st
        obtain ⟨n26, hn26, hn26'⟩ := hC.pr
        have hs26 : F64 (N (L k) 26) := ⟨hn26, hn26'⟩
        change 0 ≤ N (L k) 25 at hn25
        change N (L k) 25 ≤ 255 at hn25'
        have hsz := hC.size
        have HSP := Lib.hid hC.sp
        have HALL := Lib.hid hC.all
        have HSZ := Lib.hid hsz
        have HSX := Lib.hid (show ((L k).extract 0 (0 + 25)) = (L k).extract 0 25 from rfl)
        have HY0 := Lib.hid (fun h => fmay_next (L := L) (k := k) HM.out h)
        have HN0 := Lib.hid (fun h => fmay_no (L := L) (k := k) n hlt h)
        unfold fOk at HY0 HN0
        obtain ⟨x, hxe⟩ : ∃ x, x = N (L k) 0 := ⟨_, rfl⟩
        have HXE := Lib.hid hxe
        obtain ⟨s, hse⟩ : ∃ s, s = N (L k) 25 := ⟨_, rfl⟩
        obtain ⟨p, hpe⟩ : ∃ p, p = N (L k) 26 := ⟨_, rfl⟩
        obtain ⟨X, hXe⟩ : ∃ X, X = L k := ⟨_, rfl⟩
        have HXX := Lib.hid hXe
        rw [← hxe] at n0 hn0 hn0' HY0 HN0
        rw [← hse] at n25 hn25 hn25' HY0 HN0
        rw [← hpe] at n26 hs26 HY0 HN0
        rw [← hXe] at HY0 HN0 n0 n25 n26 HSP HALL HSZ HSX he
        clear hC hxe hse hpe hXe hsz hn26 hn26'
        rw [← hl] at HY0 HN0
        clear hl hex
        have cq := isprice_any (X.extract 0 25) p
        obtain ⟨b, hbe⟩ : ∃ b, b = ipB (X.extract 0 25) p := ⟨_, rfl⟩
        rw [← hbe] at HY0 HN0 cq
        clear hbe
        by_cases h1 : x ≤ l
        · have HB := Lib.hid (HE1.out (HN0.out (by rw [decide_eq_false (by omega)]; rfl)))
          go_wp2_with (first | ((with_reducible refine at_load 65 ?_); refine wpList_load_part rfl 65 _ rfl (g) (off + k * 27) rfl _ (B) _ _ 27 (hg) Try.underlying65 rfl (by kernel_rfl) (hs) (X) (he) ?_) | ((with_reducible refine at_alloc 65 ?_); refine wpList_alloc_named rfl 65 rfl (cz) (by kernel_rfl) ?_) | ((with_reducible refine at_store 65 ?_); refine wpList_store_new rfl 65 _ _ rfl (X) _ _ _ rfl (by simp) rfl (by rw [HSZ.out]; kernel_rfl) (by rw [HSZ.out]; rfl) (HALL.out) ?_) | ((with_reducible refine at_load 61 ?_); refine wpList_load_part rfl 61 _ rfl (wr.heap.size) (0) rfl _ (X) _ _ 25 (heap_alloc_new _ _) Try.underlying61 rfl (by kernel_rfl) (by rw [HSZ.out]; omega) (X.extract 0 25) (rfl) ?_) | (go_at_call 62; (with_reducible refine (cq _ HSP.out hs26).mono ?_); rintro e w4 ⟨rfl, hb4⟩; have HX4 := Lib.hid (Ytobokknfpjjdeaa.kept hb4 (heap_alloc_new wr (Obj.cells X 65))); have c4 := cellF HX4.out))
          go_ret2
          exact ⟨.inr ⟨HB.out, rfl⟩, by first | exact below_then (below_alloc HW.out _) hb4 | exact below_alloc HW.out _⟩
        by_cases h2 : s < 1
        · have HB := Lib.hid (HE1.out (HN0.out (by rw [decide_eq_false (show ¬ 1 ≤ s by omega), Bool.false_and, Bool.and_false])))
          go_wp2_with (first | ((with_reducible refine at_load 65 ?_); refine wpList_load_part rfl 65 _ rfl (g) (off + k * 27) rfl _ (B) _ _ 27 (hg) Try.underlying65 rfl (by kernel_rfl) (hs) (X) (he) ?_) | ((with_reducible refine at_alloc 65 ?_); refine wpList_alloc_named rfl 65 rfl (cz) (by kernel_rfl) ?_) | ((with_reducible refine at_store 65 ?_); refine wpList_store_new rfl 65 _ _ rfl (X) _ _ _ rfl (by simp) rfl (by rw [HSZ.out]; kernel_rfl) (by rw [HSZ.out]; rfl) (HALL.out) ?_) | ((with_reducible refine at_load 61 ?_); refine wpList_load_part rfl 61 _ rfl (wr.heap.size) (0) rfl _ (X) _ _ 25 (heap_alloc_new _ _) Try.underlying61 rfl (by kernel_rfl) (by rw [HSZ.out]; omega) (X.extract 0 25) (rfl) ?_) | (go_at_call 62; (with_reducible refine (cq _ HSP.out hs26).mono ?_); rintro e w4 ⟨rfl, hb4⟩; have HX4 := Lib.hid (Ytobokknfpjjdeaa.kept hb4 (heap_alloc_new wr (Obj.cells X 65))); have c4 := cellF HX4.out))
          go_ret2
          exact ⟨.inr ⟨HB.out, rfl⟩, by first | exact below_then (below_alloc HW.out _) hb4 | exact below_alloc HW.out _⟩
        by_cases h3 : 3 < s
        · have HB := Lib.hid (HE1.out (HN0.out (by rw [decide_eq_false (show ¬ s ≤ 3 by omega), Bool.false_and, Bool.and_false, Bool.and_false])))
          go_wp2_with (first | ((with_reducible refine at_load 65 ?_); refine wpList_load_part rfl 65 _ rfl (g) (off + k * 27) rfl _ (B) _ _ 27 (hg) Try.underlying65 rfl (by kernel_rfl) (hs) (X) (he) ?_) | ((with_reducible refine at_alloc 65 ?_); refine wpList_alloc_named rfl 65 rfl (cz) (by kernel_rfl) ?_) | ((with_reducible refine at_store 65 ?_); refine wpList_store_new rfl 65 _ _ rfl (X) _ _ _ rfl (by simp) rfl (by rw [HSZ.out]; kernel_rfl) (by rw [HSZ.out]; rfl) (HALL.out) ?_) | ((with_reducible refine at_load 61 ?_); refine wpList_load_part rfl 61 _ rfl (wr.heap.size) (0) rfl _ (X) _ _ 25 (heap_alloc_new _ _) Try.underlying61 rfl (by kernel_rfl) (by rw [HSZ.out]; omega) (X.extract 0 25) (rfl) ?_) | (go_at_call 62; (with_reducible refine (cq _ HSP.out hs26).mono ?_); rintro e w4 ⟨rfl, hb4⟩; have HX4 := Lib.hid (Ytobokknfpjjdeaa.kept hb4 (heap_alloc_new wr (Obj.cells X 65))); have c4 := cellF HX4.out))
          go_ret2
          exact ⟨.inr ⟨HB.out, rfl⟩, by first | exact below_then (below_alloc HW.out _) hb4 | exact below_alloc HW.out _⟩
        cases b
        · have HB := Lib.hid (HE1.out (HN0.out (by simp)))
          go_wp2_with (first | ((with_reducible refine at_load 65 ?_); refine wpList_load_part rfl 65 _ rfl (g) (off + k * 27) rfl _ (B) _ _ 27 (hg) Try.underlying65 rfl (by kernel_rfl) (hs) (X) (he) ?_) | ((with_reducible refine at_alloc 65 ?_); refine wpList_alloc_named rfl 65 rfl (cz) (by kernel_rfl) ?_) | ((with_reducible refine at_store 65 ?_); refine wpList_store_new rfl 65 _ _ rfl (X) _ _ _ rfl (by simp) rfl (by rw [HSZ.out]; kernel_rfl) (by rw [HSZ.out]; rfl) (HALL.out) ?_) | ((with_reducible refine at_load 61 ?_); refine wpList_load_part rfl 61 _ rfl (wr.heap.size) (0) rfl _ (X) _ _ 25 (heap_alloc_new _ _) Try.underlying61 rfl (by kernel_rfl) (by rw [HSZ.out]; omega) (X.extract 0 25) (rfl) ?_) | (go_at_call 62; (with_reducible refine (cq _ HSP.out hs26).mono ?_); rintro e w4 ⟨rfl, hb4⟩; have HX4 := Lib.hid (Ytobokknfpjjdeaa.kept hb4 (heap_alloc_new wr (Obj.cells X 65))); have c4 := cellF HX4.out))
          go_ret2
          exact ⟨.inr ⟨HB.out, rfl⟩, by first | exact below_then (below_alloc HW.out _) hb4 | exact below_alloc HW.out _⟩
        · have HG := Lib.hid (HY0.out (by rw [decide_eq_true (show l < x by omega), decide_eq_true (show 1 ≤ s by omega), decide_eq_true (show s ≤ 3 by omega)]; rfl))
          go_wp2_with (first | ((with_reducible refine at_load 65 ?_); refine wpList_load_part rfl 65 _ rfl (g) (off + k * 27) rfl _ (B) _ _ 27 (hg) Try.underlying65 rfl (by kernel_rfl) (hs) (X) (he) ?_) | ((with_reducible refine at_alloc 65 ?_); refine wpList_alloc_named rfl 65 rfl (cz) (by kernel_rfl) ?_) | ((with_reducible refine at_store 65 ?_); refine wpList_store_new rfl 65 _ _ rfl (X) _ _ _ rfl (by simp) rfl (by rw [HSZ.out]; kernel_rfl) (by rw [HSZ.out]; rfl) (HALL.out) ?_) | ((with_reducible refine at_load 61 ?_); refine wpList_load_part rfl 61 _ rfl (wr.heap.size) (0) rfl _ (X) _ _ 25 (heap_alloc_new _ _) Try.underlying61 rfl (by kernel_rfl) (by rw [HSZ.out]; omega) (X.extract 0 25) (rfl) ?_) | (go_at_call 62; (with_reducible refine (cq _ HSP.out hs26).mono ?_); rintro e w4 ⟨rfl, hb4⟩; have HX4 := Lib.hid (Ytobokknfpjjdeaa.kept hb4 (heap_alloc_new wr (Obj.cells X 65))); have c4 := cellF HX4.out))
          go_roundg (n - (k + 1))
          case measure => omega
          case rel => exact ⟨k + 1, by omega, rfl, by go_num, by rw [HNX.out, ← HXE.out], HG.out, below_then (below_alloc HW.out _) hb4⟩
      · obtain rfl : k = n := by omega
        clear hl
        have cc := cclone_any a cap k L wr HL.out (rowsT_kept HA.out HW.out) (by omega) HZ.out
        go_wp2_with ((go_at_call 63; (with_reducible refine (cc).mono ?_); rintro e w4 ⟨v4, rfl, ho4, hb4⟩; obtain ⟨a4, cap4, rfl, hR4, _⟩ := own_rows (fun i => (HL.out i).size) ho4; clear hR4; replace ho4 := Lib.hid ho4; replace hb4 := Lib.hid hb4))
        go_ret2
        have hlw := HW.out.size
        have hlw4 := hb4.out.size
        exact ⟨.inl ⟨HE0.out HM.out, _, rfl, ⟨⟨_, heap_alloc_new _ _, Go.Joins.ownsRow_le (ho4.out.alloc _) hlw⟩, HL.out, fun i j h1 h2 => fmay_srt HM.out j i h1 h2, by omega, by omega, HD.out⟩⟩, below_alloc (below_then HW.out hb4.out) _⟩


set_option maxRecDepth 100000 in
set_option maxHeartbeats 4000000 in
theorem rfrom_any (a : Option Addr) (n cap : Nat) (L : Nat → Array Value) (day : Int) (w : World) (hL : ∀ i, IsCon (L i)) (hA : RowsC w 27 a n L) (hz : a = none → n = 0 ∧ cap = 0) : RFromC a n cap L day w := by
  unfold RFromC
  by_cases hn : 16 < n
  · have he : fE L n = 2 := if_pos hn
    have hni : (16 : Int) < n := by omega
    have HE := Lib.hid he
    clear he hL hA hz
    go_enter Try.func32, Try.ntmps32
    go_wp2
    go_ret2
    exact ⟨.inr ⟨HE.out, rfl⟩, Below.refl _ _⟩
  · have hni : ¬ (16 : Int) < n := by omega
    have HL := Lib.hid hL
    have HA := Lib.hid hA
    have HZ := Lib.hid hz
    have HE1 := Lib.hid (show fmay L n = false → fE L n = 2 from fun h => by unfold fE; rw [if_neg hn, if_pos h])
    have HE0 := Lib.hid (show fmay L n = true → fE L n = 0 from fun h => by unfold fE; rw [if_neg hn, h, if_neg (by simp)])
    clear hL hA hz
    go_enter Try.func32, Try.ntmps32
    go_wp2
    go_loopg [6] n (fun gh v6 wr => ∃ k : Nat, k ≤ n ∧ gh = n - k ∧ v6 = .int .i64 k ∧ fmay L k = true ∧ Below w.heap.size w wr)
    case atStart => exact ⟨0, by omega, by omega, rfl, rfl, Below.refl _ _⟩
    case round =>
      obtain ⟨k, hk, rfl, rfl, hm, hbw⟩ := hrel
      have HM := Lib.hid hm
      have HW := Lib.hid hbw
      clear hm hbw
      by_cases hlt : k < n
      · obtain ⟨g, off, B, ty, fr, rfl, hg, hs, he⟩ := (HA.out.keptB HW.out) k hlt
        have hki : (k : Int) < n := by omega
        have hC := HL.out k
        obtain ⟨n0, hn0, hn0'⟩ := hC.c0
        obtain ⟨n25, hn25, hn25'⟩ := hC.st
        obtain ⟨n26, hn26, hn26'⟩ := hC.pr
        have hs26 : F64 (N (L k) 26) := ⟨hn26, hn26'⟩
        change 0 ≤ N (L k) 25 at hn25
        change N (L k) 25 ≤ 255 at hn25'
        have hsz := hC.size
        have HSP := Lib.hid hC.sp
        have HALL := Lib.hid hC.all
        have HSZ := Lib.hid hsz
        have HSX := Lib.hid (show ((L k).extract 0 (0 + 25)) = (L k).extract 0 25 from rfl)
        have HY0 := Lib.hid (fun h => fmay_next (L := L) (k := k) HM.out h)
        have HN0 := Lib.hid (fun h => fmay_no (L := L) (k := k) n hlt h)
        unfold fOk at HY0 HN0
        obtain ⟨x, hxe⟩ : ∃ x, x = N (L k) 0 := ⟨_, rfl⟩
        have HXE := Lib.hid hxe
        obtain ⟨s, hse⟩ : ∃ s, s = N (L k) 25 := ⟨_, rfl⟩
        obtain ⟨p, hpe⟩ : ∃ p, p = N (L k) 26 := ⟨_, rfl⟩
        obtain ⟨X, hXe⟩ : ∃ X, X = L k := ⟨_, rfl⟩
        have HXX := Lib.hid hXe
        rw [← hxe] at n0 hn0 hn0' HY0 HN0
        rw [← hse] at n25 hn25 hn25' HY0 HN0
        rw [← hpe] at n26 hs26 HY0 HN0
        rw [← hXe] at HY0 HN0 n0 n25 n26 HSP HALL HSZ HSX he
        clear hC hxe hse hpe hXe hsz hn26 hn26'
        have cq := risprice_any (X.extract 0 25) p
        have cm := rmay_any (X.extract 0 25)
        have HMX0 : mayB (X.extract 0 25) = true → x ≠ 0 := fun h => by
          simp only [mayB, Bool.and_eq_true, bne_iff_ne] at h
          have h0 := h.1.1.1.1.1.1.1.2
          rw [HXE.out]
          intro e
          apply h0
          rw [N_extract (by have := HSZ.out; omega) (by have := HSZ.out; omega), HXX.out]
          exact e
        have HMB0 : mayB (X.extract 0 25) = false → ipB (X.extract 0 25) p = false := fun h => by unfold ipB; rw [h]; rfl
        obtain ⟨b, hbe⟩ : ∃ b, b = ipB (X.extract 0 25) p := ⟨_, rfl⟩
        obtain ⟨m, hme⟩ : ∃ m, m = mayB (X.extract 0 25) := ⟨_, rfl⟩
        rw [← hbe] at HY0 HN0 cq HMB0
        rw [← hme] at cm HMX0 HMB0
        replace cq := fun w1 => cq w1 HSP.out hs26
        replace cm := fun w1 => cm w1 HSP.out
        have HMX := Lib.hid HMX0
        have HMB := Lib.hid HMB0
        clear hbe hme HMX0 HMB0
        by_cases hk0 : k = 0
        · have hk1 : ¬ (0 : Int) < k := by omega
          have hk2 : ¬ 0 < k := by omega
          rw [if_pos hk0] at HY0 HN0
          obtain ⟨l, hl⟩ : ∃ l : Int, l = 0 := ⟨_, rfl⟩
          rw [← hl] at HY0 HN0
          clear hk0
          obtain ⟨b1, hq1⟩ : ∃ b, decide (x ≤ l) = b := ⟨_, rfl⟩
          obtain ⟨b2, hq2⟩ : ∃ b, decide (s < 1) = b := ⟨_, rfl⟩
          obtain ⟨b3, hq3⟩ : ∃ b, decide (3 < s) = b := ⟨_, rfl⟩
          cases m
          · have hb0 : b = false := HMB.out rfl
            subst hb0
            have HB := Lib.hid (HE1.out (HN0.out (by simp)))
            go_wp2_with (first | ((with_reducible refine at_load 65 ?_); refine wpList_load_part rfl 65 _ rfl (g) (off + k * 27) rfl _ (B) _ _ 27 (hg) Try.underlying65 rfl (by kernel_rfl) (hs) (X) (he) ?_) | ((with_reducible refine at_alloc 65 ?_); refine wpList_alloc_named rfl 65 rfl (cz) (by kernel_rfl) ?_) | ((with_reducible refine at_store 65 ?_); refine wpList_store_new rfl 65 _ _ rfl (X) _ _ _ rfl (by simp) rfl (by rw [HSZ.out]; kernel_rfl) (by rw [HSZ.out]; rfl) (HALL.out) ?_))
            have hgN := heap_up (o := Obj.cells X 65) hg
            have hxN : (wr.alloc (.cells X 65)).heap[wr.heap.size]? = some (.cells X 65 (0, 0)) := heap_alloc_new _ _
            go_upto_region 7 with fail
            refine wp_region_below (by kernel_rfl) (by kernel_rfl) ?_
            repeat (first | ((with_reducible apply q_skip); (case hw => rfl); (try simp only [Act.put, List.setIfInBounds_toArray, List.set_cons_zero, List.set_cons_succ, hq1, hq2, hq3])) | ((with_reducible refine at_qload 61 ?_); refine q_load_part (by rfl) 61 _ rfl (wr.heap.size) (0) rfl _ (X) _ 25 (hxN) Try.underlying61 rfl (by kernel_rfl) (by rw [HSZ.out]; omega) (X.extract 0 25) (rfl) ?_; try simp only [Act.put, List.setIfInBounds_toArray, List.set_cons_zero, List.set_cons_succ]) | ((with_reducible refine at_qcall 64 ?_); refine q_call_below _ 64 _ (by rfl) (cm) (fun wq hbq => by go_simp) ?_; try simp only [Act.put, List.setIfInBounds_toArray, List.set_cons_zero, List.set_cons_succ]) | ((with_reducible refine at_qcall 65 ?_); refine q_call_below _ 65 _ (by rfl) (cq) (fun wq hbq => by go_simp) ?_; try simp only [Act.put, List.setIfInBounds_toArray, List.set_cons_zero, List.set_cons_succ]) | ((with_reducible apply q_val); (case hw => rfl); (case hv => intro wq hbq; have hcq := cellF (Ytobokknfpjjdeaa.kept hbq hgN); have hcd := cellF (Ytobokknfpjjdeaa.kept hbq hxN); go_simp; try rfl); (try simp only [Act.put, List.setIfInBounds_toArray, List.set_cons_zero, List.set_cons_succ, hq1, hq2, hq3])))
            refine q_nil ?_
            intro w4 hb4
            go_wp2
            go_ret2
            exact ⟨.inr ⟨HB.out, rfl⟩, below_then (below_alloc HW.out _) hb4⟩
          cases b2
          case true =>
            have h2 : s < 1 := of_decide_eq_true hq2
            have HB := Lib.hid (HE1.out (HN0.out (by rw [decide_eq_false (show ¬ 1 ≤ s by omega), Bool.false_and, Bool.and_false])))
            go_wp2_with (first | ((with_reducible refine at_load 65 ?_); refine wpList_load_part rfl 65 _ rfl (g) (off + k * 27) rfl _ (B) _ _ 27 (hg) Try.underlying65 rfl (by kernel_rfl) (hs) (X) (he) ?_) | ((with_reducible refine at_alloc 65 ?_); refine wpList_alloc_named rfl 65 rfl (cz) (by kernel_rfl) ?_) | ((with_reducible refine at_store 65 ?_); refine wpList_store_new rfl 65 _ _ rfl (X) _ _ _ rfl (by simp) rfl (by rw [HSZ.out]; kernel_rfl) (by rw [HSZ.out]; rfl) (HALL.out) ?_))
            have hgN := heap_up (o := Obj.cells X 65) hg
            have hxN : (wr.alloc (.cells X 65)).heap[wr.heap.size]? = some (.cells X 65 (0, 0)) := heap_alloc_new _ _
            go_upto_region 7 with fail
            refine wp_region_below (by kernel_rfl) (by kernel_rfl) ?_
            repeat (first | ((with_reducible apply q_skip); (case hw => rfl); (try simp only [Act.put, List.setIfInBounds_toArray, List.set_cons_zero, List.set_cons_succ, hq1, hq2, hq3])) | ((with_reducible refine at_qload 61 ?_); refine q_load_part (by rfl) 61 _ rfl (wr.heap.size) (0) rfl _ (X) _ 25 (hxN) Try.underlying61 rfl (by kernel_rfl) (by rw [HSZ.out]; omega) (X.extract 0 25) (rfl) ?_; try simp only [Act.put, List.setIfInBounds_toArray, List.set_cons_zero, List.set_cons_succ]) | ((with_reducible refine at_qcall 64 ?_); refine q_call_below _ 64 _ (by rfl) (cm) (fun wq hbq => by go_simp) ?_; try simp only [Act.put, List.setIfInBounds_toArray, List.set_cons_zero, List.set_cons_succ]) | ((with_reducible refine at_qcall 65 ?_); refine q_call_below _ 65 _ (by rfl) (cq) (fun wq hbq => by go_simp) ?_; try simp only [Act.put, List.setIfInBounds_toArray, List.set_cons_zero, List.set_cons_succ]) | ((with_reducible apply q_val); (case hw => rfl); (case hv => intro wq hbq; have hcq := cellF (Ytobokknfpjjdeaa.kept hbq hgN); have hcd := cellF (Ytobokknfpjjdeaa.kept hbq hxN); go_simp; try rfl); (try simp only [Act.put, List.setIfInBounds_toArray, List.set_cons_zero, List.set_cons_succ, hq1, hq2, hq3])))
            refine q_nil ?_
            intro w4 hb4
            go_wp2
            go_ret2
            exact ⟨.inr ⟨HB.out, rfl⟩, below_then (below_alloc HW.out _) hb4⟩
          have h2 : ¬ s < 1 := of_decide_eq_false hq2
          cases b3
          case true =>
            have h3 : 3 < s := of_decide_eq_true hq3
            have HB := Lib.hid (HE1.out (HN0.out (by rw [decide_eq_false (show ¬ s ≤ 3 by omega), Bool.false_and, Bool.and_false, Bool.and_false])))
            go_wp2_with (first | ((with_reducible refine at_load 65 ?_); refine wpList_load_part rfl 65 _ rfl (g) (off + k * 27) rfl _ (B) _ _ 27 (hg) Try.underlying65 rfl (by kernel_rfl) (hs) (X) (he) ?_) | ((with_reducible refine at_alloc 65 ?_); refine wpList_alloc_named rfl 65 rfl (cz) (by kernel_rfl) ?_) | ((with_reducible refine at_store 65 ?_); refine wpList_store_new rfl 65 _ _ rfl (X) _ _ _ rfl (by simp) rfl (by rw [HSZ.out]; kernel_rfl) (by rw [HSZ.out]; rfl) (HALL.out) ?_))
            have hgN := heap_up (o := Obj.cells X 65) hg
            have hxN : (wr.alloc (.cells X 65)).heap[wr.heap.size]? = some (.cells X 65 (0, 0)) := heap_alloc_new _ _
            go_upto_region 7 with fail
            refine wp_region_below (by kernel_rfl) (by kernel_rfl) ?_
            repeat (first | ((with_reducible apply q_skip); (case hw => rfl); (try simp only [Act.put, List.setIfInBounds_toArray, List.set_cons_zero, List.set_cons_succ, hq1, hq2, hq3])) | ((with_reducible refine at_qload 61 ?_); refine q_load_part (by rfl) 61 _ rfl (wr.heap.size) (0) rfl _ (X) _ 25 (hxN) Try.underlying61 rfl (by kernel_rfl) (by rw [HSZ.out]; omega) (X.extract 0 25) (rfl) ?_; try simp only [Act.put, List.setIfInBounds_toArray, List.set_cons_zero, List.set_cons_succ]) | ((with_reducible refine at_qcall 64 ?_); refine q_call_below _ 64 _ (by rfl) (cm) (fun wq hbq => by go_simp) ?_; try simp only [Act.put, List.setIfInBounds_toArray, List.set_cons_zero, List.set_cons_succ]) | ((with_reducible refine at_qcall 65 ?_); refine q_call_below _ 65 _ (by rfl) (cq) (fun wq hbq => by go_simp) ?_; try simp only [Act.put, List.setIfInBounds_toArray, List.set_cons_zero, List.set_cons_succ]) | ((with_reducible apply q_val); (case hw => rfl); (case hv => intro wq hbq; have hcq := cellF (Ytobokknfpjjdeaa.kept hbq hgN); have hcd := cellF (Ytobokknfpjjdeaa.kept hbq hxN); go_simp; try rfl); (try simp only [Act.put, List.setIfInBounds_toArray, List.set_cons_zero, List.set_cons_succ, hq1, hq2, hq3])))
            refine q_nil ?_
            intro w4 hb4
            go_wp2
            go_ret2
            exact ⟨.inr ⟨HB.out, rfl⟩, below_then (below_alloc HW.out _) hb4⟩
          have h3 : ¬ 3 < s := of_decide_eq_false hq3
          cases b
          · have HB := Lib.hid (HE1.out (HN0.out (by simp)))
            go_wp2_with (first | ((with_reducible refine at_load 65 ?_); refine wpList_load_part rfl 65 _ rfl (g) (off + k * 27) rfl _ (B) _ _ 27 (hg) Try.underlying65 rfl (by kernel_rfl) (hs) (X) (he) ?_) | ((with_reducible refine at_alloc 65 ?_); refine wpList_alloc_named rfl 65 rfl (cz) (by kernel_rfl) ?_) | ((with_reducible refine at_store 65 ?_); refine wpList_store_new rfl 65 _ _ rfl (X) _ _ _ rfl (by simp) rfl (by rw [HSZ.out]; kernel_rfl) (by rw [HSZ.out]; rfl) (HALL.out) ?_))
            have hgN := heap_up (o := Obj.cells X 65) hg
            have hxN : (wr.alloc (.cells X 65)).heap[wr.heap.size]? = some (.cells X 65 (0, 0)) := heap_alloc_new _ _
            go_upto_region 7 with fail
            refine wp_region_below (by kernel_rfl) (by kernel_rfl) ?_
            repeat (first | ((with_reducible apply q_skip); (case hw => rfl); (try simp only [Act.put, List.setIfInBounds_toArray, List.set_cons_zero, List.set_cons_succ, hq1, hq2, hq3])) | ((with_reducible refine at_qload 61 ?_); refine q_load_part (by rfl) 61 _ rfl (wr.heap.size) (0) rfl _ (X) _ 25 (hxN) Try.underlying61 rfl (by kernel_rfl) (by rw [HSZ.out]; omega) (X.extract 0 25) (rfl) ?_; try simp only [Act.put, List.setIfInBounds_toArray, List.set_cons_zero, List.set_cons_succ]) | ((with_reducible refine at_qcall 64 ?_); refine q_call_below _ 64 _ (by rfl) (cm) (fun wq hbq => by go_simp) ?_; try simp only [Act.put, List.setIfInBounds_toArray, List.set_cons_zero, List.set_cons_succ]) | ((with_reducible refine at_qcall 65 ?_); refine q_call_below _ 65 _ (by rfl) (cq) (fun wq hbq => by go_simp) ?_; try simp only [Act.put, List.setIfInBounds_toArray, List.set_cons_zero, List.set_cons_succ]) | ((with_reducible apply q_val); (case hw => rfl); (case hv => intro wq hbq; have hcq := cellF (Ytobokknfpjjdeaa.kept hbq hgN); have hcd := cellF (Ytobokknfpjjdeaa.kept hbq hxN); go_simp; try rfl); (try simp only [Act.put, List.setIfInBounds_toArray, List.set_cons_zero, List.set_cons_succ, hq1, hq2, hq3])))
            refine q_nil ?_
            intro w4 hb4
            go_wp2
            go_ret2
            exact ⟨.inr ⟨HB.out, rfl⟩, below_then (below_alloc HW.out _) hb4⟩
          have hxl : l < x := by have := HMX.out rfl; omega
          have HG := Lib.hid (HY0.out (by rw [decide_eq_true hxl, decide_eq_true (show 1 ≤ s by omega), decide_eq_true (show s ≤ 3 by omega)]; rfl))
          go_wp2_with (first | ((with_reducible refine at_load 65 ?_); refine wpList_load_part rfl 65 _ rfl (g) (off + k * 27) rfl _ (B) _ _ 27 (hg) Try.underlying65 rfl (by kernel_rfl) (hs) (X) (he) ?_) | ((with_reducible refine at_alloc 65 ?_); refine wpList_alloc_named rfl 65 rfl (cz) (by kernel_rfl) ?_) | ((with_reducible refine at_store 65 ?_); refine wpList_store_new rfl 65 _ _ rfl (X) _ _ _ rfl (by simp) rfl (by rw [HSZ.out]; kernel_rfl) (by rw [HSZ.out]; rfl) (HALL.out) ?_))
          have hgN := heap_up (o := Obj.cells X 65) hg
          have hxN : (wr.alloc (.cells X 65)).heap[wr.heap.size]? = some (.cells X 65 (0, 0)) := heap_alloc_new _ _
          go_upto_region 7 with fail
          refine wp_region_below (by kernel_rfl) (by kernel_rfl) ?_
          repeat (first | ((with_reducible apply q_skip); (case hw => rfl); (try simp only [Act.put, List.setIfInBounds_toArray, List.set_cons_zero, List.set_cons_succ, hq1, hq2, hq3])) | ((with_reducible refine at_qload 61 ?_); refine q_load_part (by rfl) 61 _ rfl (wr.heap.size) (0) rfl _ (X) _ 25 (hxN) Try.underlying61 rfl (by kernel_rfl) (by rw [HSZ.out]; omega) (X.extract 0 25) (rfl) ?_; try simp only [Act.put, List.setIfInBounds_toArray, List.set_cons_zero, List.set_cons_succ]) | ((with_reducible refine at_qcall 64 ?_); refine q_call_below _ 64 _ (by rfl) (cm) (fun wq hbq => by go_simp) ?_; try simp only [Act.put, List.setIfInBounds_toArray, List.set_cons_zero, List.set_cons_succ]) | ((with_reducible refine at_qcall 65 ?_); refine q_call_below _ 65 _ (by rfl) (cq) (fun wq hbq => by go_simp) ?_; try simp only [Act.put, List.setIfInBounds_toArray, List.set_cons_zero, List.set_cons_succ]) | ((with_reducible apply q_val); (case hw => rfl); (case hv => intro wq hbq; have hcq := cellF (Ytobokknfpjjdeaa.kept hbq hgN); have hcd := cellF (Ytobokknfpjjdeaa.kept hbq hxN); go_simp; try rfl); (try simp only [Act.put, List.setIfInBounds_toArray, List.set_cons_zero, List.set_cons_succ, hq1, hq2, hq3])))
          refine q_nil ?_
          intro w4 hb4
          go_wp2
          go_roundg (n - (k + 1))
          case measure => omega
          case rel => exact ⟨k + 1, by omega, rfl, by go_num, HG.out, below_then (below_alloc HW.out _) hb4⟩
        · obtain ⟨m1, hm1⟩ : ∃ m1, k = m1 + 1 := ⟨k - 1, by omega⟩
          have hkm : (k : Int) - 1 = (m1 : Int) := by omega
          have wm : IntKind.i64.wrap (m1 : Int) = (m1 : Int) := by rw [IntKind.wrap_i64]; omega
          have hk1 : (0 : Int) < k := by omega
          have hk2 : 0 < k := by omega
          have hmn : (m1 : Int) < n := by omega
          have hmn2 : m1 < n := by omega
          obtain ⟨g', off', B', ty', fr', hae, hg', hs', he'⟩ := (HA.out.keptB HW.out) m1 hmn2
          obtain ⟨rfl, rfl⟩ : g = g' ∧ off = off' := by cases hae; exact ⟨rfl, rfl⟩
          obtain ⟨rfl, rfl⟩ : B = B' ∧ fr = fr' := by rw [hg] at hg'; cases hg'; exact ⟨rfl, rfl⟩
          rw [if_neg hk0, show k - 1 = m1 by omega] at HY0 HN0
          have hm0 := (HL.out m1).c0
          obtain ⟨l, hl⟩ : ∃ l : Int, l = N (L m1) 0 := ⟨_, rfl⟩
          rw [← hl] at HY0 HN0 hm0
          have hc0 : B[off + m1 * 27]? = some (.int .u32 l) := by
            rw [← hm0.1, ← he', Array.getElem?_extract, if_pos (by omega)]; rfl
          have hl0 := hm0.2
          clear hl hm0 he' hg' hae hk0 hm1
          obtain ⟨b1, hq1⟩ : ∃ b, decide (x ≤ l) = b := ⟨_, rfl⟩
          obtain ⟨b2, hq2⟩ : ∃ b, decide (s < 1) = b := ⟨_, rfl⟩
          obtain ⟨b3, hq3⟩ : ∃ b, decide (3 < s) = b := ⟨_, rfl⟩
          cases b1
          case true =>
            have h1 : x ≤ l := of_decide_eq_true hq1
            have HB := Lib.hid (HE1.out (HN0.out (by rw [decide_eq_false (show ¬ l < x by omega)]; rfl)))
            go_wp2_with (first | ((with_reducible refine at_load 65 ?_); refine wpList_load_part rfl 65 _ rfl (g) (off + k * 27) rfl _ (B) _ _ 27 (hg) Try.underlying65 rfl (by kernel_rfl) (hs) (X) (he) ?_) | ((with_reducible refine at_alloc 65 ?_); refine wpList_alloc_named rfl 65 rfl (cz) (by kernel_rfl) ?_) | ((with_reducible refine at_store 65 ?_); refine wpList_store_new rfl 65 _ _ rfl (X) _ _ _ rfl (by simp) rfl (by rw [HSZ.out]; kernel_rfl) (by rw [HSZ.out]; rfl) (HALL.out) ?_))
            have hgN := heap_up (o := Obj.cells X 65) hg
            have hxN : (wr.alloc (.cells X 65)).heap[wr.heap.size]? = some (.cells X 65 (0, 0)) := heap_alloc_new _ _
            go_upto_region 7 with fail
            refine wp_region_below (by kernel_rfl) (by kernel_rfl) ?_
            repeat (first | ((with_reducible apply q_skip); (case hw => rfl); (try simp only [Act.put, List.setIfInBounds_toArray, List.set_cons_zero, List.set_cons_succ, hq1, hq2, hq3])) | ((with_reducible refine at_qload 61 ?_); refine q_load_part (by rfl) 61 _ rfl (wr.heap.size) (0) rfl _ (X) _ 25 (hxN) Try.underlying61 rfl (by kernel_rfl) (by rw [HSZ.out]; omega) (X.extract 0 25) (rfl) ?_; try simp only [Act.put, List.setIfInBounds_toArray, List.set_cons_zero, List.set_cons_succ]) | ((with_reducible refine at_qcall 64 ?_); refine q_call_below _ 64 _ (by rfl) (cm) (fun wq hbq => by go_simp) ?_; try simp only [Act.put, List.setIfInBounds_toArray, List.set_cons_zero, List.set_cons_succ]) | ((with_reducible refine at_qcall 65 ?_); refine q_call_below _ 65 _ (by rfl) (cq) (fun wq hbq => by go_simp) ?_; try simp only [Act.put, List.setIfInBounds_toArray, List.set_cons_zero, List.set_cons_succ]) | ((with_reducible apply q_val); (case hw => rfl); (case hv => intro wq hbq; have hcq := cellF (Ytobokknfpjjdeaa.kept hbq hgN); have hcd := cellF (Ytobokknfpjjdeaa.kept hbq hxN); go_simp; try rfl); (try simp only [Act.put, List.setIfInBounds_toArray, List.set_cons_zero, List.set_cons_succ, hq1, hq2, hq3])))
            refine q_nil ?_
            intro w4 hb4
            go_wp2
            go_ret2
            exact ⟨.inr ⟨HB.out, rfl⟩, below_then (below_alloc HW.out _) hb4⟩
          have h1 : ¬ x ≤ l := of_decide_eq_false hq1
          cases m
          · have hb0 : b = false := HMB.out rfl
            subst hb0
            have HB := Lib.hid (HE1.out (HN0.out (by simp)))
            go_wp2_with (first | ((with_reducible refine at_load 65 ?_); refine wpList_load_part rfl 65 _ rfl (g) (off + k * 27) rfl _ (B) _ _ 27 (hg) Try.underlying65 rfl (by kernel_rfl) (hs) (X) (he) ?_) | ((with_reducible refine at_alloc 65 ?_); refine wpList_alloc_named rfl 65 rfl (cz) (by kernel_rfl) ?_) | ((with_reducible refine at_store 65 ?_); refine wpList_store_new rfl 65 _ _ rfl (X) _ _ _ rfl (by simp) rfl (by rw [HSZ.out]; kernel_rfl) (by rw [HSZ.out]; rfl) (HALL.out) ?_))
            have hgN := heap_up (o := Obj.cells X 65) hg
            have hxN : (wr.alloc (.cells X 65)).heap[wr.heap.size]? = some (.cells X 65 (0, 0)) := heap_alloc_new _ _
            go_upto_region 7 with fail
            refine wp_region_below (by kernel_rfl) (by kernel_rfl) ?_
            repeat (first | ((with_reducible apply q_skip); (case hw => rfl); (try simp only [Act.put, List.setIfInBounds_toArray, List.set_cons_zero, List.set_cons_succ, hq1, hq2, hq3])) | ((with_reducible refine at_qload 61 ?_); refine q_load_part (by rfl) 61 _ rfl (wr.heap.size) (0) rfl _ (X) _ 25 (hxN) Try.underlying61 rfl (by kernel_rfl) (by rw [HSZ.out]; omega) (X.extract 0 25) (rfl) ?_; try simp only [Act.put, List.setIfInBounds_toArray, List.set_cons_zero, List.set_cons_succ]) | ((with_reducible refine at_qcall 64 ?_); refine q_call_below _ 64 _ (by rfl) (cm) (fun wq hbq => by go_simp) ?_; try simp only [Act.put, List.setIfInBounds_toArray, List.set_cons_zero, List.set_cons_succ]) | ((with_reducible refine at_qcall 65 ?_); refine q_call_below _ 65 _ (by rfl) (cq) (fun wq hbq => by go_simp) ?_; try simp only [Act.put, List.setIfInBounds_toArray, List.set_cons_zero, List.set_cons_succ]) | ((with_reducible apply q_val); (case hw => rfl); (case hv => intro wq hbq; have hcq := cellF (Ytobokknfpjjdeaa.kept hbq hgN); have hcd := cellF (Ytobokknfpjjdeaa.kept hbq hxN); go_simp; try rfl); (try simp only [Act.put, List.setIfInBounds_toArray, List.set_cons_zero, List.set_cons_succ, hq1, hq2, hq3])))
            refine q_nil ?_
            intro w4 hb4
            go_wp2
            go_ret2
            exact ⟨.inr ⟨HB.out, rfl⟩, below_then (below_alloc HW.out _) hb4⟩
          cases b2
          case true =>
            have h2 : s < 1 := of_decide_eq_true hq2
            have HB := Lib.hid (HE1.out (HN0.out (by rw [decide_eq_false (show ¬ 1 ≤ s by omega), Bool.false_and, Bool.and_false])))
            go_wp2_with (first | ((with_reducible refine at_load 65 ?_); refine wpList_load_part rfl 65 _ rfl (g) (off + k * 27) rfl _ (B) _ _ 27 (hg) Try.underlying65 rfl (by kernel_rfl) (hs) (X) (he) ?_) | ((with_reducible refine at_alloc 65 ?_); refine wpList_alloc_named rfl 65 rfl (cz) (by kernel_rfl) ?_) | ((with_reducible refine at_store 65 ?_); refine wpList_store_new rfl 65 _ _ rfl (X) _ _ _ rfl (by simp) rfl (by rw [HSZ.out]; kernel_rfl) (by rw [HSZ.out]; rfl) (HALL.out) ?_))
            have hgN := heap_up (o := Obj.cells X 65) hg
            have hxN : (wr.alloc (.cells X 65)).heap[wr.heap.size]? = some (.cells X 65 (0, 0)) := heap_alloc_new _ _
            go_upto_region 7 with fail
            refine wp_region_below (by kernel_rfl) (by kernel_rfl) ?_
            repeat (first | ((with_reducible apply q_skip); (case hw => rfl); (try simp only [Act.put, List.setIfInBounds_toArray, List.set_cons_zero, List.set_cons_succ, hq1, hq2, hq3])) | ((with_reducible refine at_qload 61 ?_); refine q_load_part (by rfl) 61 _ rfl (wr.heap.size) (0) rfl _ (X) _ 25 (hxN) Try.underlying61 rfl (by kernel_rfl) (by rw [HSZ.out]; omega) (X.extract 0 25) (rfl) ?_; try simp only [Act.put, List.setIfInBounds_toArray, List.set_cons_zero, List.set_cons_succ]) | ((with_reducible refine at_qcall 64 ?_); refine q_call_below _ 64 _ (by rfl) (cm) (fun wq hbq => by go_simp) ?_; try simp only [Act.put, List.setIfInBounds_toArray, List.set_cons_zero, List.set_cons_succ]) | ((with_reducible refine at_qcall 65 ?_); refine q_call_below _ 65 _ (by rfl) (cq) (fun wq hbq => by go_simp) ?_; try simp only [Act.put, List.setIfInBounds_toArray, List.set_cons_zero, List.set_cons_succ]) | ((with_reducible apply q_val); (case hw => rfl); (case hv => intro wq hbq; have hcq := cellF (Ytobokknfpjjdeaa.kept hbq hgN); have hcd := cellF (Ytobokknfpjjdeaa.kept hbq hxN); go_simp; try rfl); (try simp only [Act.put, List.setIfInBounds_toArray, List.set_cons_zero, List.set_cons_succ, hq1, hq2, hq3])))
            refine q_nil ?_
            intro w4 hb4
            go_wp2
            go_ret2
            exact ⟨.inr ⟨HB.out, rfl⟩, below_then (below_alloc HW.out _) hb4⟩
          have h2 : ¬ s < 1 := of_decide_eq_false hq2
          cases b3
          case true =>
            have h3 : 3 < s := of_decide_eq_true hq3
            have HB := Lib.hid (HE1.out (HN0.out (by rw [decide_eq_false (show ¬ s ≤ 3 by omega), Bool.false_and, Bool.and_false, Bool.and_false])))
            go_wp2_with (first | ((with_reducible refine at_load 65 ?_); refine wpList_load_part rfl 65 _ rfl (g) (off + k * 27) rfl _ (B) _ _ 27 (hg) Try.underlying65 rfl (by kernel_rfl) (hs) (X) (he) ?_) | ((with_reducible refine at_alloc 65 ?_); refine wpList_alloc_named rfl 65 rfl (cz) (by kernel_rfl) ?_) | ((with_reducible refine at_store 65 ?_); refine wpList_store_new rfl 65 _ _ rfl (X) _ _ _ rfl (by simp) rfl (by rw [HSZ.out]; kernel_rfl) (by rw [HSZ.out]; rfl) (HALL.out) ?_))
            have hgN := heap_up (o := Obj.cells X 65) hg
            have hxN : (wr.alloc (.cells X 65)).heap[wr.heap.size]? = some (.cells X 65 (0, 0)) := heap_alloc_new _ _
            go_upto_region 7 with fail
            refine wp_region_below (by kernel_rfl) (by kernel_rfl) ?_
            repeat (first | ((with_reducible apply q_skip); (case hw => rfl); (try simp only [Act.put, List.setIfInBounds_toArray, List.set_cons_zero, List.set_cons_succ, hq1, hq2, hq3])) | ((with_reducible refine at_qload 61 ?_); refine q_load_part (by rfl) 61 _ rfl (wr.heap.size) (0) rfl _ (X) _ 25 (hxN) Try.underlying61 rfl (by kernel_rfl) (by rw [HSZ.out]; omega) (X.extract 0 25) (rfl) ?_; try simp only [Act.put, List.setIfInBounds_toArray, List.set_cons_zero, List.set_cons_succ]) | ((with_reducible refine at_qcall 64 ?_); refine q_call_below _ 64 _ (by rfl) (cm) (fun wq hbq => by go_simp) ?_; try simp only [Act.put, List.setIfInBounds_toArray, List.set_cons_zero, List.set_cons_succ]) | ((with_reducible refine at_qcall 65 ?_); refine q_call_below _ 65 _ (by rfl) (cq) (fun wq hbq => by go_simp) ?_; try simp only [Act.put, List.setIfInBounds_toArray, List.set_cons_zero, List.set_cons_succ]) | ((with_reducible apply q_val); (case hw => rfl); (case hv => intro wq hbq; have hcq := cellF (Ytobokknfpjjdeaa.kept hbq hgN); have hcd := cellF (Ytobokknfpjjdeaa.kept hbq hxN); go_simp; try rfl); (try simp only [Act.put, List.setIfInBounds_toArray, List.set_cons_zero, List.set_cons_succ, hq1, hq2, hq3])))
            refine q_nil ?_
            intro w4 hb4
            go_wp2
            go_ret2
            exact ⟨.inr ⟨HB.out, rfl⟩, below_then (below_alloc HW.out _) hb4⟩
          have h3 : ¬ 3 < s := of_decide_eq_false hq3
          cases b
          · have HB := Lib.hid (HE1.out (HN0.out (by simp)))
            go_wp2_with (first | ((with_reducible refine at_load 65 ?_); refine wpList_load_part rfl 65 _ rfl (g) (off + k * 27) rfl _ (B) _ _ 27 (hg) Try.underlying65 rfl (by kernel_rfl) (hs) (X) (he) ?_) | ((with_reducible refine at_alloc 65 ?_); refine wpList_alloc_named rfl 65 rfl (cz) (by kernel_rfl) ?_) | ((with_reducible refine at_store 65 ?_); refine wpList_store_new rfl 65 _ _ rfl (X) _ _ _ rfl (by simp) rfl (by rw [HSZ.out]; kernel_rfl) (by rw [HSZ.out]; rfl) (HALL.out) ?_))
            have hgN := heap_up (o := Obj.cells X 65) hg
            have hxN : (wr.alloc (.cells X 65)).heap[wr.heap.size]? = some (.cells X 65 (0, 0)) := heap_alloc_new _ _
            go_upto_region 7 with fail
            refine wp_region_below (by kernel_rfl) (by kernel_rfl) ?_
            repeat (first | ((with_reducible apply q_skip); (case hw => rfl); (try simp only [Act.put, List.setIfInBounds_toArray, List.set_cons_zero, List.set_cons_succ, hq1, hq2, hq3])) | ((with_reducible refine at_qload 61 ?_); refine q_load_part (by rfl) 61 _ rfl (wr.heap.size) (0) rfl _ (X) _ 25 (hxN) Try.underlying61 rfl (by kernel_rfl) (by rw [HSZ.out]; omega) (X.extract 0 25) (rfl) ?_; try simp only [Act.put, List.setIfInBounds_toArray, List.set_cons_zero, List.set_cons_succ]) | ((with_reducible refine at_qcall 64 ?_); refine q_call_below _ 64 _ (by rfl) (cm) (fun wq hbq => by go_simp) ?_; try simp only [Act.put, List.setIfInBounds_toArray, List.set_cons_zero, List.set_cons_succ]) | ((with_reducible refine at_qcall 65 ?_); refine q_call_below _ 65 _ (by rfl) (cq) (fun wq hbq => by go_simp) ?_; try simp only [Act.put, List.setIfInBounds_toArray, List.set_cons_zero, List.set_cons_succ]) | ((with_reducible apply q_val); (case hw => rfl); (case hv => intro wq hbq; have hcq := cellF (Ytobokknfpjjdeaa.kept hbq hgN); have hcd := cellF (Ytobokknfpjjdeaa.kept hbq hxN); go_simp; try rfl); (try simp only [Act.put, List.setIfInBounds_toArray, List.set_cons_zero, List.set_cons_succ, hq1, hq2, hq3])))
            refine q_nil ?_
            intro w4 hb4
            go_wp2
            go_ret2
            exact ⟨.inr ⟨HB.out, rfl⟩, below_then (below_alloc HW.out _) hb4⟩
          have hxl : l < x := by have := HMX.out rfl; omega
          have HG := Lib.hid (HY0.out (by rw [decide_eq_true hxl, decide_eq_true (show 1 ≤ s by omega), decide_eq_true (show s ≤ 3 by omega)]; rfl))
          go_wp2_with (first | ((with_reducible refine at_load 65 ?_); refine wpList_load_part rfl 65 _ rfl (g) (off + k * 27) rfl _ (B) _ _ 27 (hg) Try.underlying65 rfl (by kernel_rfl) (hs) (X) (he) ?_) | ((with_reducible refine at_alloc 65 ?_); refine wpList_alloc_named rfl 65 rfl (cz) (by kernel_rfl) ?_) | ((with_reducible refine at_store 65 ?_); refine wpList_store_new rfl 65 _ _ rfl (X) _ _ _ rfl (by simp) rfl (by rw [HSZ.out]; kernel_rfl) (by rw [HSZ.out]; rfl) (HALL.out) ?_))
          have hgN := heap_up (o := Obj.cells X 65) hg
          have hxN : (wr.alloc (.cells X 65)).heap[wr.heap.size]? = some (.cells X 65 (0, 0)) := heap_alloc_new _ _
          go_upto_region 7 with fail
          refine wp_region_below (by kernel_rfl) (by kernel_rfl) ?_
          repeat (first | ((with_reducible apply q_skip); (case hw => rfl); (try simp only [Act.put, List.setIfInBounds_toArray, List.set_cons_zero, List.set_cons_succ, hq1, hq2, hq3])) | ((with_reducible refine at_qload 61 ?_); refine q_load_part (by rfl) 61 _ rfl (wr.heap.size) (0) rfl _ (X) _ 25 (hxN) Try.underlying61 rfl (by kernel_rfl) (by rw [HSZ.out]; omega) (X.extract 0 25) (rfl) ?_; try simp only [Act.put, List.setIfInBounds_toArray, List.set_cons_zero, List.set_cons_succ]) | ((with_reducible refine at_qcall 64 ?_); refine q_call_below _ 64 _ (by rfl) (cm) (fun wq hbq => by go_simp) ?_; try simp only [Act.put, List.setIfInBounds_toArray, List.set_cons_zero, List.set_cons_succ]) | ((with_reducible refine at_qcall 65 ?_); refine q_call_below _ 65 _ (by rfl) (cq) (fun wq hbq => by go_simp) ?_; try simp only [Act.put, List.setIfInBounds_toArray, List.set_cons_zero, List.set_cons_succ]) | ((with_reducible apply q_val); (case hw => rfl); (case hv => intro wq hbq; have hcq := cellF (Ytobokknfpjjdeaa.kept hbq hgN); have hcd := cellF (Ytobokknfpjjdeaa.kept hbq hxN); go_simp; try rfl); (try simp only [Act.put, List.setIfInBounds_toArray, List.set_cons_zero, List.set_cons_succ, hq1, hq2, hq3])))
          refine q_nil ?_
          intro w4 hb4
          go_wp2
          go_roundg (n - (k + 1))
          case measure => omega
          case rel => exact ⟨k + 1, by omega, rfl, by go_num, HG.out, below_then (below_alloc HW.out _) hb4⟩
      · obtain rfl : k = n := by omega
        have hbn := below_alloc (o := Obj.cells #[] 65) HW.out
        go_wp2_with ((with_reducible refine at_append 62 ?_); refine wpList_append_con rfl _ _ rfl wr.heap.size _ rfl (own_empty_t wr _ _) a k cap L HL.out rfl (HA.out.keptB hbn) HZ.out (by omega) (by simp) ?_; intro v4 w4 ho4 hg4; (have HB4 := Lib.hid (hbn.grown hg4 (by have := HW.out.size; simp; omega) (fun j e => by have e : wr.heap.size = j := Option.some.inj e; have := HW.out.size; omega))); clear hg4; obtain ⟨a4, cap4, rfl, hR4, _⟩ := own_rows (fun i => (HL.out i).size) ho4; clear hR4; replace ho4 := Lib.hid ho4)
        go_ret2
        have hlw := HW.out.size
        have hlw4 := HB4.out.size
        exact ⟨.inl ⟨HE0.out HM.out, _, rfl, ⟨⟨_, heap_alloc_new _ _, Go.Joins.ownsRow_le (ho4.out.alloc _) hlw⟩, hlw4⟩⟩, below_alloc HB4.out _⟩
end Go.Proofs.Ytobokknfpjjdeaa
