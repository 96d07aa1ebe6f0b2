/- CalendarFrom, walked: it returns true, of whatever day and contracts came in. Condition: the numbers fit their kinds. -/
import Derived.Test.YtobokknfpjjdeaaFrom05
import Derived.Test.YtobokknfpjjdeaaKnown05
namespace Go.Proofs.Ytobokknfpjjdeaa
set_option linter.unusedVariables false
set_option linter.unusedSimpArgs false
open Go.RowKit

/-- old memory as it was, but for the prices of one slice's contracts -/
structure Bp (w3 : World) (row : Option Nat) (a : Option Addr) (n : Nat) (wr : World) : Prop where
  gr : w3.grownBy wr row
  ce : ∀ i, i < n → ∃ g off C p, a = some (⟨g, off, none⟩ : Addr) ∧ wr.heap[g]? = some (.cells C 65 (0, 0)) ∧ C[off + i * 27 + 26]? = some (.int .i64 p)
theorem Bp.set {w3 wr : World} {n g off i : Nat} {p : Int} (h : Bp w3 (some g) (some ⟨g, off, none⟩) n wr) (hi : i < n) : Bp w3 (some g) (some ⟨g, off, none⟩) n (wr.setCell ⟨g, off + i * 27 + 26, none⟩ (.int .i64 p)) := by
  refine ⟨h.gr.trans (set_grown _ _ _ _), fun j hj => ?_⟩
  obtain ⟨g', off', C, q, e, h1, h2⟩ := h.ce j hj
  cases e
  refine ⟨g, off, C.setIfInBounds (off + i * 27 + 26) (.int .i64 p), ?_⟩
  have hs := heap_setCell_same wr g (off + i * 27 + 26) C _ (.int .i64 p) h1
  by_cases e : i = j
  · subst e
    exact ⟨p, rfl, hs, by rw [Array.getElem?_setIfInBounds, if_pos rfl, if_pos (Array.getElem?_eq_some_iff.1 h2).1]⟩
  · exact ⟨q, rfl, hs, by rw [Array.getElem?_setIfInBounds, if_neg (by omega)]; exact h2⟩
theorem CalIs.bump {w wr : World} {g base k : Nat} {day : Int} {L : Nat → Array Value} {row : Option Nat} (h : CalIs w g base k day L) (hg : w.grownBy wr row) (hr : ∀ q, row = some q → q < base) : CalIs wr g base k day L := by
  obtain ⟨v, h1, h2⟩ := h.row
  refine ⟨⟨v, (hg.block g (Array.getElem?_eq_some_iff.1 h1).1 (fun e => by have := hr g e.symm; have := h.bg; omega)).trans h1, h2.kept hg ?_⟩, h.con, h.srt, h.bg, h.hk, h.hd⟩
  cases hb : v.ownBlock with
  | none => exact .inl rfl
  | some b => exact .inr (fun e => by have := hr b e.symm; have := (h2.lt b hb).1; omega)
theorem RefIs.bump {w wr : World} {g base k : Nat} {day : Int} {L : Nat → Array Value} {row : Option Nat} (h : RefIs w g base k day L) (hg : w.grownBy wr row) (hr : ∀ q, row = some q → q < base) : RefIs wr g base k day L := by
  obtain ⟨v, h1, h2⟩ := h.row
  refine ⟨⟨v, (hg.block g (Array.getElem?_eq_some_iff.1 h1).1 (fun e => by have := hr g e.symm; have := h.bg; omega)).trans h1, h2.kept hg ?_⟩, h.bg⟩
  cases hb : v.ownBlock with
  | none => exact .inl rfl
  | some b => exact .inr (fun e => by have := hr b e.symm; have := (h2.lt b hb).1; omega)
theorem below_step2 {w w1 w2 : World} (h : Below w.heap.size w w1) (h2 : Below w1.heap.size w1 w2) : Below w.heap.size w w2 := below_then h h2
theorem own_below2 {w1 w2 w3 : World} {b n c : Nat} {e : TypeId} {v : Value} {xs : List Value} (h2 : Below w1.heap.size w1 w2) (h3 : Below w2.heap.size w2 w3) (h : w1.ownsRow b e c v n xs) : w3.ownsRow b e c v n xs := own_below h3 (own_below h2 h)
theorem bp_start {w : World} {base n cap : Nat} {a : Option Addr} {L : Nat → Array Value} (hL : ∀ i, IsCon (L i)) (h : RowsT w 65 27 a n L) (h0 : w.ownsRow base 65 27 (.slice a n cap) n (flat L n)) : Bp w (Value.slice a n cap).ownBlock a n w := by
  refine ⟨⟨rfl, rfl, rfl, Nat.le_refl _, fun _ _ _ => rfl⟩, fun i hi => ?_⟩
  obtain ⟨_, ⟨h1, h2⟩ | ⟨g, c, cur, h1, _, hg, _⟩⟩ := h0
  · omega
  · obtain ⟨g', off, A, fr, e, h2, h3, h4⟩ := h i hi
    cases h1; cases e
    rw [hg] at h2; cases h2
    refine ⟨g, 0, cur, N (L i) 26, rfl, hg, ?_⟩
    have hp := ((hL i).pr).i64.1
    have e2 := congrArg (fun A : Array Value => A[26]?) h4
    simp only [Array.getElem?_extract] at e2
    rw [if_pos (by omega)] at e2
    rw [← hp, ← e2]

theorem cfrom_ok (a : Option Addr) (n cap : Nat) (L : Nat → Array Value) (day : Int) (w : World) (hf : fE L n = 0) (hd : 0 ≤ day ∧ day ≤ 4294967295) (hL : ∀ i, IsCon (L i)) (hA : RowsT w 65 27 a n L) (hz : a = none → n = 0 ∧ cap = 0) :
    Calls Try.prog 31 #[.int .u32 day, .slice a n cap] w fun e w' => ∃ g, e = .returned (.tuple #[.pointer (some ⟨g, 0, none⟩), .int .i64 0]) ∧ CalIs w' g w.heap.size n day L ∧ Below w.heap.size w w' :=
  (cfrom_any a n cap L day w hd hL hA hz).mono fun e w' ⟨h, hb⟩ => by
    rcases h with ⟨_, g, h1, h2⟩ | ⟨h1, _⟩
    · exact ⟨g, h1, h2, hb⟩
    · omega
theorem cfrom_no (a : Option Addr) (n cap : Nat) (L : Nat → Array Value) (day : Int) (w : World) (hf : ¬ fE L n = 0) (hd : 0 ≤ day ∧ day ≤ 4294967295) (hL : ∀ i, IsCon (L i)) (hA : RowsT w 65 27 a n L) (hz : a = none → n = 0 ∧ cap = 0) :
    Calls Try.prog 31 #[.int .u32 day, .slice a n cap] w fun e w' => e = .returned (.tuple #[.pointer none, .int .i64 2]) ∧ Below w.heap.size w w' :=
  (cfrom_any a n cap L day w hd hL hA hz).mono fun e w' ⟨h, hb⟩ => by
    rcases h with ⟨h1, _⟩ | ⟨_, h1⟩
    · exact absurd h1 hf
    · exact ⟨h1, hb⟩
theorem rfrom_ok (a : Option Addr) (n cap : Nat) (L : Nat → Array Value) (day : Int) (w : World) (hf : fE L n = 0) (hL : ∀ i, IsCon (L i)) (hA : RowsC w 27 a n L) (hz : a = none → n = 0 ∧ cap = 0) :
    Calls Try.prog 32 #[.int .u32 day, .slice a n cap] w fun e w' => ∃ g, e = .returned (.tuple #[.pointer (some ⟨g, 0, none⟩), .int .i64 0]) ∧ RefIs w' g w.heap.size n day L ∧ Below w.heap.size w w' :=
  (rfrom_any a n cap L day w hL hA hz).mono fun e w' ⟨h, hb⟩ => by
    rcases h with ⟨_, g, h1, h2⟩ | ⟨h1, _⟩
    · exact ⟨g, h1, h2, hb⟩
    · omega
theorem rfrom_no (a : Option Addr) (n cap : Nat) (L : Nat → Array Value) (day : Int) (w : World) (hf : ¬ fE L n = 0) (hL : ∀ i, IsCon (L i)) (hA : RowsC w 27 a n L) (hz : a = none → n = 0 ∧ cap = 0) :
    Calls Try.prog 32 #[.int .u32 day, .slice a n cap] w fun e w' => e = .returned (.tuple #[.pointer none, .int .i64 2]) ∧ Below w.heap.size w w' :=
  (rfrom_any a n cap L day w hL hA hz).mono fun e w' ⟨h, hb⟩ => by
    rcases h with ⟨h1, _⟩ | ⟨_, h1⟩
    · exact absurd h1 hf
    · exact ⟨h1, hb⟩
set_option maxRecDepth 100000 in
set_option maxHeartbeats 4000000 in
theorem cfrom05_walk (a : Option Addr) (n cap : Nat) (L : Nat → Array Value) (day : Int) (w : World) (hd : 0 ≤ day ∧ day ≤ 4294967295) (hL : ∀ i, IsCon (L i)) (hA : RowsC w 27 a n L) (hn : n ≤ cap) (hc : cap ≤ 9223372036854775807) (hz : a = none → n = 0 ∧ cap = 0) :
    Calls Try.prog 7 #[.int .u32 day, .slice a n cap] w fun e w' => e = .returned (.bool true) ∧ Below w.heap.size w w' := by
  by_cases h100 : 100 < n
  · have hni : (100 : Int) < n := by omega
    clear hA hz hL
    go_enter Try.func7, Try.ntmps7
    go_wp2_with ((go_at_call 24; (with_reducible refine (known05 _).mono ?_); rintro e w2 ⟨rfl, hb2⟩))
    go_ret
    exact ⟨rfl, hb2⟩
  have nc0 : ∀ (w : World) (g : Nat), (binOp .eql 56 (.pointer (some ⟨g, 0, none⟩)) (.pointer none)).run Try.prog w = .ok (.bool false) w := fun _ _ => by kernel_rfl
  have nc1 : ∀ (w : World), (binOp .eql 56 (.pointer none) (.pointer none)).run Try.prog w = .ok (.bool true) w := fun _ => by kernel_rfl
  have nr0 : ∀ (w : World) (g : Nat), (binOp .eql 75 (.pointer (some ⟨g, 0, none⟩)) (.pointer none)).run Try.prog w = .ok (.bool false) w := fun _ _ => by kernel_rfl
  have nr1 : ∀ (w : World), (binOp .eql 75 (.pointer none) (.pointer none)).run Try.prog w = .ok (.bool true) w := fun _ => by kernel_rfl
  by_cases hf : fE L n = 0
  · have hni : ¬ (100 : Int) < n := by omega
    have HL := Lib.hid hL
    have HA := Lib.hid hA
    have HZ := Lib.hid hz
    have HD := Lib.hid hd
    have HF := Lib.hid hf
    have hbn := below_new w (Obj.cells #[] 65)
    clear hL hA hz hd
    go_enter Try.func7, Try.ntmps7
    go_wp2_with (first | ((with_reducible refine at_append 62 ?_); refine wpList_append_con rfl _ _ rfl w.heap.size _ rfl (own_empty_t w _ _) a n cap L HL.out rfl (HA.out.keptB hbn) HZ.out (by omega) (by simp) ?_; intro v1 w1 ho1 hg1; (have HB1 := Lib.hid (hbn.grown hg1 (by simp) (fun j e => by have e : w.heap.size = j := Option.some.inj e; omega))); clear hg1 hbn; obtain ⟨a1, cap1, rfl, hR1, hn1, hc1, hz1⟩ := own_rows (fun i => (HL.out i).size) ho1; have HR1 := Lib.hid hR1; have HZ1 := Lib.hid hz1; clear hR1 hz1; replace ho1 := Lib.hid ho1) | (go_at_call 31; (with_reducible refine (cfrom_ok _ _ _ _ _ _ HF.out HD.out HL.out HR1.out HZ1.out).mono ?_); rintro e w2 ⟨g, rfl, hC, hb2⟩; (have HC := Lib.hid hC); clear hC) | (go_at_call 32; (with_reducible refine (rfrom_ok _ _ _ _ _ _ HF.out HL.out (HA.out.keptB (below_step2 HB1.out hb2)) HZ.out).mono ?_); rintro e w3 ⟨gw, rfl, hR, hb3⟩; (have HR := Lib.hid hR); clear hR))
    have HST := Lib.hid (bp_start HL.out (rowsT_kept HR1.out (below_step2 hb2 hb3)) (own_below2 hb2 hb3 ho1.out))
    obtain ⟨row, hrow⟩ : ∃ row, row = (Value.slice a1 n cap1).ownBlock := ⟨_, rfl⟩
    rw [← hrow] at HST
    have HRW := Lib.hid hrow
    clear hrow
    go_loopg [10, 42] n (fun gh v10 v42 wr => ∃ k : Nat, k ≤ n ∧ gh = n - k ∧ v42 = .int .i64 k ∧ Bp w3 row a1 n wr)
    case atStart => exact ⟨0, by omega, by omega, rfl, HST.out⟩
    case round =>
      obtain ⟨k, hk, rfl, rfl, hbp⟩ := hrel
      have HBP := Lib.hid hbp
      by_cases hlt : k < n
      · obtain ⟨g5, off, C, p, rfl, hg5, hc5⟩ := hbp.ce k hlt
        obtain rfl : row = some g5 := by rw [HRW.out]; rfl
        have hki : (k : Int) < n := by omega
        obtain ⟨hcell, hcs, hlt5⟩ := cells_of hg5
        clear hbp hg5
        go_wp2
        go_roundg (n - (k + 1))
        case measure => omega
        case rel => exact ⟨k + 1, by omega, rfl, by go_num, HBP.out.set hlt⟩
      · obtain rfl : k = n := by omega
        clear hbp
        have HEND := Lib.hid (And.intro HBP.out.gr (show ∀ q, row = some q → w.heap.size ≤ q ∧ q < w1.heap.size from fun q e => ho1.out.lt q (by rw [← HRW.out]; exact e)))
        have hBW : Below w.heap.size w w3 := below_then (below_then HB1.out hb2) hb3
        have HBN := Lib.hid (hBW.grown HEND.out.1 hBW.size (fun q e => (HEND.out.2 q e).1))
        have hz2 := hb2.size
        go_wp2_with (first | (go_at_call 33; (with_reducible refine (same05_yes ((HC.out.kept hb3).bump HEND.out.1 (fun q e => (HEND.out.2 q e).2)) ((HR.out.bump HEND.out.1 (fun q e => Nat.lt_of_lt_of_le (HEND.out.2 q e).2 hz2)).cal HL.out)).mono ?_); rintro e w5 ⟨rfl, hb5⟩) | (go_at_call 24; (with_reducible refine (known05 _).mono ?_); rintro e w6 ⟨rfl, hb6⟩))
        go_ret
        exact ⟨rfl, by first | exact below_then (below_then HBN.out hb5) hb6 | exact below_then HBN.out hb6⟩
  · have hni : ¬ (100 : Int) < n := by omega
    have HL := Lib.hid hL
    have HA := Lib.hid hA
    have HZ := Lib.hid hz
    have HD := Lib.hid hd
    have HF := Lib.hid hf
    have hbn := below_new w (Obj.cells #[] 65)
    clear hL hA hz hd
    go_enter Try.func7, Try.ntmps7
    go_wp2_with (first | ((with_reducible refine at_append 62 ?_); refine wpList_append_con rfl _ _ rfl w.heap.size _ rfl (own_empty_t w _ _) a n cap L HL.out rfl (HA.out.keptB hbn) HZ.out (by omega) (by simp) ?_; intro v1 w1 ho1 hg1; (have HB1 := Lib.hid (hbn.grown hg1 (by simp) (fun j e => by have e : w.heap.size = j := Option.some.inj e; omega))); clear hg1 hbn; obtain ⟨a1, cap1, rfl, hR1, hn1, hc1, hz1⟩ := own_rows (fun i => (HL.out i).size) ho1; have HR1 := Lib.hid hR1; have HZ1 := Lib.hid hz1; clear hR1 hz1; replace ho1 := Lib.hid ho1) | (go_at_call 31; (with_reducible refine (cfrom_no _ _ _ _ _ _ HF.out HD.out HL.out HR1.out HZ1.out).mono ?_); rintro e w2 ⟨rfl, hb2⟩) | (go_at_call 32; (with_reducible refine (rfrom_no _ _ _ _ _ _ HF.out HL.out (HA.out.keptB (below_step2 HB1.out hb2)) HZ.out).mono ?_); rintro e w3 ⟨rfl, hb3⟩))
    have HST := Lib.hid (bp_start HL.out (rowsT_kept HR1.out (below_step2 hb2 hb3)) (own_below2 hb2 hb3 ho1.out))
    obtain ⟨row, hrow⟩ : ∃ row, row = (Value.slice a1 n cap1).ownBlock := ⟨_, rfl⟩
    rw [← hrow] at HST
    have HRW := Lib.hid hrow
    clear hrow
    go_loopg [10, 42] n (fun gh v10 v42 wr => ∃ k : Nat, k ≤ n ∧ gh = n - k ∧ v42 = .int .i64 k ∧ Bp w3 row a1 n wr)
    case atStart => exact ⟨0, by omega, by omega, rfl, HST.out⟩
    case round =>
      obtain ⟨k, hk, rfl, rfl, hbp⟩ := hrel
      have HBP := Lib.hid hbp
      by_cases hlt : k < n
      · obtain ⟨g5, off, C, p, rfl, hg5, hc5⟩ := hbp.ce k hlt
        obtain rfl : row = some g5 := by rw [HRW.out]; rfl
        have hki : (k : Int) < n := by omega
        obtain ⟨hcell, hcs, hlt5⟩ := cells_of hg5
        clear hbp hg5
        go_wp2
        go_roundg (n - (k + 1))
        case measure => omega
        case rel => exact ⟨k + 1, by omega, rfl, by go_num, HBP.out.set hlt⟩
      · obtain rfl : k = n := by omega
        clear hbp
        have HEND := Lib.hid (And.intro HBP.out.gr (show ∀ q, row = some q → w.heap.size ≤ q ∧ q < w1.heap.size from fun q e => ho1.out.lt q (by rw [← HRW.out]; exact e)))
        have hBW : Below w.heap.size w w3 := below_then (below_then HB1.out hb2) hb3
        have HBN := Lib.hid (hBW.grown HEND.out.1 hBW.size (fun q e => (HEND.out.2 q e).1))
        have hz2 := hb2.size
        go_wp2_with (first | (go_at_call 33; (with_reducible refine (same05_yes ((HC.out.kept hb3).bump HEND.out.1 (fun q e => (HEND.out.2 q e).2)) ((HR.out.bump HEND.out.1 (fun q e => Nat.lt_of_lt_of_le (HEND.out.2 q e).2 hz2)).cal HL.out)).mono ?_); rintro e w5 ⟨rfl, hb5⟩) | (go_at_call 24; (with_reducible refine (known05 _).mono ?_); rintro e w6 ⟨rfl, hb6⟩))
        go_ret
        exact ⟨rfl, by first | exact below_then (below_then HBN.out hb5) hb6 | exact below_then HBN.out hb6⟩
end Go.Proofs.Ytobokknfpjjdeaa
