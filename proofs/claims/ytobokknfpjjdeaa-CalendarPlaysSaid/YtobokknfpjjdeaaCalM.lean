/- A calendar that was made: its state, and the methods that ask. Condition: the calendar is one. -/
import Derived.Test.YtobokknfpjjdeaaCal
import Derived.Test.YtobokknfpjjdeaaHeldG
namespace Go.Proofs.Ytobokknfpjjdeaa
set_option linter.unusedVariables false
set_option linter.unusedSimpArgs false
open Go.RowKit

structure CalIs (w : World) (g base k : Nat) (day : Int) (L : Nat → Array Value) : Prop where
  row : ∃ v, w.heap[g]? = some (.cells #[.bool true, .int .u32 day, v] 93 (0, 0)) ∧ w.ownsRow base 65 27 v k (flat L k)
  con : ∀ i, IsCon (L i)
  srt : ∀ i j, i < j → j < k → N (L i) 0 < N (L j) 0
  bg : base ≤ g
  hk : k ≤ 16
  hd : 0 ≤ day ∧ day ≤ 4294967295
theorem CalIs.kept {w w' : World} {g base k : Nat} {day : Int} {L : Nat → Array Value} (h : CalIs w g base k day L) (hb : Below w.heap.size w w') : CalIs w' g base k day L := by
  obtain ⟨v, hg, hr⟩ := h.row
  exact ⟨⟨v, Ytobokknfpjjdeaa.kept hb hg, own_below hb hr⟩, h.con, h.srt, h.bg, h.hk, h.hd⟩
theorem At.one {L : Nat → Array Value} {k : Nat} {n : Int} {i j : Nat} (h1 : At L k n i) (hj : j < k) (hn : N (L j) 0 = n) (hs : ∀ i j, i < j → j < k → N (L i) 0 < N (L j) 0) : i = j := by
  obtain ⟨a1, a2, a3⟩ := h1
  rcases Nat.lt_trichotomy i j with h | h | h
  · have := a3 i (Nat.le_refl _) (by omega)
    have := hs i j h hj
    omega
  · exact h
  · have := a2 j h
    omega
theorem cready_yes {w : World} {g base k : Nat} {day : Int} {L : Nat → Array Value} (h : CalIs w g base k day L) : Calls Try.prog 57 #[.pointer (some ⟨g, 0, none⟩)] w fun e w' => e = .returned (.bool true) ∧ w = w' := by
  obtain ⟨v, hg, _⟩ := h.row
  have cg := cellF hg
  go_enter Try.func57, Try.ntmps57
  go_wp2
  go_ret
  exact ⟨rfl, rfl⟩
theorem cat_any {w : World} {g base k : Nat} {day : Int} {L : Nat → Array Value} (n : Int) (h : CalIs w g base k day L) : Calls Try.prog 59 #[.pointer (some ⟨g, 0, none⟩), .int .u32 n] w fun e w' => ∃ i : Nat, At L k n i ∧ e = .returned (.tuple #[.int .i64 i, .bool (decide (i < k ∧ N (L i) 0 = n))]) ∧ Below w.heap.size w w' := by
  obtain ⟨v, hg, hrow⟩ := h.row
  obtain ⟨ra, rc, rfl, hR, _⟩ := own_rows (c := 27) (fun i => (h.con i).size) hrow
  have cg := cellF hg
  have cb := Lib.hid (bsf_any ra k rc L n w hR h.con h.srt (by have := h.hk; omega))
  have HE := Lib.hid (show ∀ i : Nat, ∃ b, b = decide (i < k ∧ N (L i) 0 = n) from fun i => ⟨_, rfl⟩)
  clear h hR
  go_enter Try.func59, Try.ntmps59
  go_wp2_with fail
  go_at_call 78
  refine cb.out.mono ?_
  rintro e w1 ⟨i, hi, rfl, hb⟩
  have HI := Lib.hid hi
  clear hi
  obtain ⟨b, hbb⟩ := HE.out i
  have HB := Lib.hid hbb
  rw [← hbb]
  clear hbb
  go_wp2_with fail
  go_ret2
  exact ⟨i, HI.out, by rw [← HB.out]; rfl, hb⟩
/-- a contract that is there -/
theorem cat_in {w : World} {g base k : Nat} {day : Int} {L : Nat → Array Value} {n : Int} {i : Nat} (h : CalIs w g base k day L) (hi : i < k) (hn : N (L i) 0 = n) : Calls Try.prog 59 #[.pointer (some ⟨g, 0, none⟩), .int .u32 n] w fun e w' => e = .returned (.tuple #[.int .i64 i, .bool true]) ∧ Below w.heap.size w w' :=
  (cat_any n h).mono fun e w' ⟨j, hj, he, hb⟩ => by
    obtain rfl := hj.one hi hn h.srt
    exact ⟨by rw [he, decide_eq_true ⟨hi, hn⟩], hb⟩
/-- one that is not -/
theorem cat_out {w : World} {g base k : Nat} {day : Int} {L : Nat → Array Value} {n : Int} (h : CalIs w g base k day L) (hn : ∀ i, i < k → N (L i) 0 ≠ n) : Calls Try.prog 59 #[.pointer (some ⟨g, 0, none⟩), .int .u32 n] w fun e w' => ∃ i : Nat, At L k n i ∧ e = .returned (.tuple #[.int .i64 i, .bool false]) ∧ Below w.heap.size w w' :=
  (cat_any n h).mono fun e w' ⟨j, hj, he, hb⟩ => ⟨j, hj, by rw [he, decide_eq_false (fun h => hn j h.1 h.2)], hb⟩
/-- where the contract at i lies -/
def Row (w : World) (g k : Nat) (day : Int) (L : Nat → Array Value) (gb rc : Nat) (A : Array Value) : Prop :=
  w.heap[g]? = some (.cells #[.bool true, .int .u32 day, .slice (some ⟨gb, 0, none⟩) k rc] 93 (0, 0)) ∧ w.heap[gb]? = some (.cells A 65 (0, 0)) ∧ (∀ i, i < k → i * 27 + 27 ≤ A.size ∧ A.extract (i * 27) (i * 27 + 27) = L i)
theorem CalIs.at_row {w : World} {g base k : Nat} {day : Int} {L : Nat → Array Value} (h : CalIs w g base k day L) (hk : 0 < k) : ∃ gb rc A, Row w g k day L gb rc A ∧ base ≤ gb ∧ A.size = rc * 27 ∧ k ≤ rc ∧ rc ≤ 9223372036854775807 ∧ A.toList.take (k * 27) = flat L k := by
  obtain ⟨v, hg, hrow⟩ := h.row
  obtain ⟨_, ⟨rfl, h0⟩ | ⟨gb, cap, cur, rfl, hbb, hgb, hn, hm, hc, ht⟩⟩ := id hrow
  · omega
  · refine ⟨gb, cap, cur, ⟨hg, hgb, fun i hi => ?_⟩, hbb, hc, hn, by unfold maxLen at hm; omega, ht⟩
    obtain ⟨ra, rc, he, hR, _⟩ := own_rows (c := 27) (fun i => (h.con i).size) hrow
    cases he
    obtain ⟨g2, off, A, fr, ha, hgA, hs, hx⟩ := hR i hi
    cases ha
    rw [hgb] at hgA
    cases hgA
    rw [Nat.zero_add] at hs hx
    exact ⟨hs, hx⟩
theorem Row.kept {w w' : World} {g k : Nat} {day : Int} {L : Nat → Array Value} {gb rc : Nat} {A : Array Value} (h : Row w g k day L gb rc A) (hb : Below w.heap.size w w') : Row w' g k day L gb rc A := ⟨Ytobokknfpjjdeaa.kept hb h.1, Ytobokknfpjjdeaa.kept hb h.2.1, h.2.2⟩
theorem Row.cell {w : World} {g k : Nat} {day : Int} {L : Nat → Array Value} {gb rc : Nat} {A : Array Value} (h : Row w g k day L gb rc A) {i j : Nat} (hi : i < k) (hj : j < 27) : A[i * 27 + j]? = (L i)[j]? := by
  obtain ⟨h1, h2⟩ := h.2.2 i hi
  rw [← h2, Array.getElem?_extract, if_pos (by omega)]
set_option maxHeartbeats 1000000 in
theorem calive_yes {w : World} {g base k : Nat} {day : Int} {L : Nat → Array Value} {n : Int} {i gb rc : Nat} {A : Array Value} (h : CalIs w g base k day L) (hi : i < k) (hn : N (L i) 0 = n) (hA : Row w g k day L gb rc A) (hs : N (L i) 25 ≠ 3) :
    Calls Try.prog 61 #[.pointer (some ⟨g, 0, none⟩), .int .u32 n] w fun e w' => e = .returned (.tuple #[.pointer (some ⟨gb, i * 27, none⟩), .int .i64 0]) ∧ Below w.heap.size w w' := by
  have cr := Lib.hid (cready_yes h)
  have ca := Lib.hid (cat_in h hi hn)
  have hk := h.hk
  have hst := (h.con i).st
  have hc25 : A[i * 27 + 25]? = some (.int .u8 (N (L i) 25)) := by rw [hA.cell hi (by omega)]; exact hst.u8.1
  have HA := Lib.hid hA
  clear h hA hn hst
  generalize N (L i) 25 = s at *
  have hs2 : (s == 3) = false := by simpa using hs
  have hik : (i : Int) < k := by omega
  clear hs
  go_enter Try.func61, Try.ntmps61
  go_wp2_with (first | (go_at_call 57; (with_reducible refine (cr.out).mono ?_); rintro e w1 ⟨rfl, rfl⟩) | (go_at_call 59; (with_reducible refine (ca.out).mono ?_); rintro e w1 ⟨rfl, hb⟩; have h1 := HA.out.kept hb; have c1 := cellF h1.1; have c2 := cellF h1.2.1; clear h1))
  go_ret2
  exact ⟨rfl, hb⟩
end Go.Proofs.Ytobokknfpjjdeaa
