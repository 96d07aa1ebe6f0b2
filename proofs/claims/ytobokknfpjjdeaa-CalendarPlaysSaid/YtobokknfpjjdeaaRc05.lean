/- The document's calendar: where a contract is, whether it is alive, the next day, what is there. Condition: the calendar is one. -/
import Derived.Test.YtobokknfpjjdeaaCFrom05
namespace Go.Proofs.Ytobokknfpjjdeaa
set_option linter.unusedVariables false
set_option linter.unusedSimpArgs false
open Go.RowKit

/-- the document's calendar, its row v its own -/
structure RIs (w : World) (g base k : Nat) (day : Int) (L : Nat → Array Value) (v : Value) : Prop where
  row : w.heap[g]? = some (.cells #[.int .u32 day, v] 89 (0, 0))
  own : w.ownsRow base 65 27 v k (flat L k)
  bg : base ≤ g
  con : ∀ i, IsCon (L i)
  srt : ∀ i j, i < j → j < k → N (L i) 0 < N (L j) 0
  hk : k ≤ 16
  hd : 0 ≤ day ∧ day ≤ 4294967295
theorem RIs.kept {w w' : World} {g base k : Nat} {day : Int} {L : Nat → Array Value} {v : Value} (h : RIs w g base k day L v) (hb : Below w.heap.size w w') : RIs w' g base k day L v :=
  ⟨Ytobokknfpjjdeaa.kept hb h.row, own_below hb h.own, h.bg, h.con, h.srt, h.hk, h.hd⟩
theorem RIs.ref {w : World} {g base k : Nat} {day : Int} {L : Nat → Array Value} {v : Value} (h : RIs w g base k day L v) : RefIs w g base k day L := ⟨⟨v, h.row, h.own⟩, h.bg⟩
/-- all but the calendar's own two blocks is as it was -/
def Kr (g : Nat) (v : Value) (A B : World) : Prop := ∀ i, i ≠ g → some i ≠ v.ownBlock → i < A.heap.size → B.heap[i]? = A.heap[i]?
theorem kr_below {g : Nat} {v : Value} {A B : World} (h : Below A.heap.size A B) : Kr g v A B := fun i _ _ hlt => h.block i hlt
set_option maxHeartbeats 1000000 in
theorem rplace_in {w : World} {g base k : Nat} {day : Int} {L : Nat → Array Value} {v : Value} {n : Int} {i : Nat} (h : RIs w g base k day L v) (hi : i < k) (hn : N (L i) 0 = n) :
    Calls Try.prog 70 #[.pointer (some ⟨g, 0, none⟩), .int .u32 n] w fun e w' => e = .returned (.int .i64 i) ∧ w = w' := by
  obtain ⟨a, cap, rfl, hR, _⟩ := own_rows (c := 27) (fun i => (h.con i).size) h.own
  have cg := cellF h.row
  have HR := Lib.hid hR
  have HC := Lib.hid h.con
  have HS := Lib.hid h.srt
  have HI := Lib.hid (And.intro hi hn)
  have hk := h.hk
  clear h hR
  go_enter Try.func70, Try.ntmps70
  go_wp2
  go_loopg [5] k (fun gh v5 wr => ∃ j : Nat, j ≤ i ∧ gh = k - j ∧ v5 = .int .i64 j ∧ w = wr)
  case atStart => exact ⟨0, by omega, by omega, rfl, rfl⟩
  case round =>
    obtain ⟨j, hj, rfl, rfl, rfl⟩ := hrel
    have hjk : j < k := by omega
    have hjki : (j : Int) < k := by omega
    obtain ⟨gr, off, B, fr, rfl, hgr, hsr, her⟩ := HR.out j hjk
    have hc0 : B[off + j * 27]? = some (.int .u32 (N (L j) 0)) := by
      rw [← (HC.out j).c0.1, ← her, Array.getElem?_extract, if_pos (by omega)]; rfl
    have cr := cellF hgr
    by_cases he : j = i
    · subst he
      rw [HI.out.2] at hc0
      go_wp2
      go_ret
      exact ⟨rfl, rfl⟩
    · have hne : N (L j) 0 ≠ n := by have := HS.out j i (by omega) hi; rw [← HI.out.2]; omega
      generalize N (L j) 0 = x at *
      go_wp2
      go_roundg (k - (j + 1))
      case measure => omega
      case rel => exact ⟨j + 1, by omega, rfl, by go_num, rfl⟩
/-- where the contract at i lies -/
structure RRow (w : World) (k : Nat) (L : Nat → Array Value) (gb rc : Nat) (A : Array Value) : Prop where
  blk : w.heap[gb]? = some (.cells A 65 (0, 0))
  at_ : ∀ i, i < k → i * 27 + 27 ≤ A.size ∧ A.extract (i * 27) (i * 27 + 27) = L i
theorem RRow.cell {w : World} {k : Nat} {L : Nat → Array Value} {gb rc : Nat} {A : Array Value} (h : RRow w k L gb rc A) {i j : Nat} (hi : i < k) (hj : j < 27) : A[i * 27 + j]? = (L i)[j]? := by
  obtain ⟨h1, h2⟩ := h.at_ i hi
  rw [← h2, Array.getElem?_extract, if_pos (by omega)]
theorem RIs.at_row {w : World} {g base k : Nat} {day : Int} {L : Nat → Array Value} {v : Value} (h : RIs w g base k day L v) (hk : 0 < k) : ∃ gb rc A, v = .slice (some ⟨gb, 0, none⟩) k rc ∧ RRow w k L gb rc A ∧ base ≤ gb ∧ A.size = rc * 27 ∧ k ≤ rc ∧ rc ≤ 9223372036854775807 ∧ A.toList.take (k * 27) = flat L k := by
  have hrow := h.own
  obtain ⟨_, ⟨rfl, h0⟩ | ⟨gb, cap, cur, rfl, hbb, hgb, hn, hm, hc, ht⟩⟩ := id hrow
  · omega
  · refine ⟨gb, cap, cur, rfl, ⟨hgb, fun i hi => ?_⟩, hbb, hc, hn, by unfold maxLen at hm; omega, ht⟩
    obtain ⟨ra, rc, he, hR, _⟩ := own_rows (c := 27) (fun i => (h.con i).size) hrow
    cases he
    obtain ⟨g2, off, A, fr, ha, hgA, hs, hx⟩ := hR i hi
    cases ha
    rw [hgb] at hgA
    cases hgA
    rw [Nat.zero_add] at hs hx
    exact ⟨hs, hx⟩
set_option maxHeartbeats 1000000 in
theorem rplace_out {w : World} {g base k : Nat} {day : Int} {L : Nat → Array Value} {v : Value} {n : Int} (h : RIs w g base k day L v) (hn : ∀ i, i < k → N (L i) 0 ≠ n) :
    Calls Try.prog 70 #[.pointer (some ⟨g, 0, none⟩), .int .u32 n] w fun e w' => e = .returned (.int .i64 (-1)) ∧ w = w' := by
  obtain ⟨a, cap, rfl, hR, _⟩ := own_rows (c := 27) (fun i => (h.con i).size) h.own
  have cg := cellF h.row
  have HR := Lib.hid hR
  have HC := Lib.hid h.con
  have HN := Lib.hid hn
  have hk := h.hk
  clear h hR hn
  go_enter Try.func70, Try.ntmps70
  go_wp2
  go_loopg [5] k (fun gh v5 wr => ∃ j : Nat, j ≤ k ∧ gh = k - j ∧ v5 = .int .i64 j ∧ w = wr)
  case atStart => exact ⟨0, by omega, by omega, rfl, rfl⟩
  case round =>
    obtain ⟨j, hj, rfl, rfl, rfl⟩ := hrel
    by_cases hjk : j < k
    · have hjki : (j : Int) < k := by omega
      obtain ⟨gr, off, B, fr, rfl, hgr, hsr, her⟩ := HR.out j hjk
      have hc0 : B[off + j * 27]? = some (.int .u32 (N (L j) 0)) := by
        rw [← (HC.out j).c0.1, ← her, Array.getElem?_extract, if_pos (by omega)]; rfl
      have cr := cellF hgr
      have hne := HN.out j hjk
      generalize N (L j) 0 = x at *
      go_wp2
      go_roundg (k - (j + 1))
      case measure => omega
      case rel => exact ⟨j + 1, by omega, rfl, by go_num, rfl⟩
    · obtain rfl : j = k := by omega
      go_wp2
      go_ret
      exact ⟨rfl, rfl⟩
theorem ralive_out {w : World} {g base k : Nat} {day : Int} {L : Nat → Array Value} {v : Value} {n : Int} (h : RIs w g base k day L v) (hn : ∀ i, i < k → N (L i) 0 ≠ n) :
    Calls Try.prog 71 #[.pointer (some ⟨g, 0, none⟩), .int .u32 n] w fun e w' => e = .returned (.tuple #[.int .i64 0, .int .i64 7]) ∧ w = w' := by
  have cp := Lib.hid (rplace_out h hn)
  clear h hn
  go_enter Try.func71, Try.ntmps71
  go_wp2_with ((go_at_call 70; (with_reducible refine (cp.out).mono ?_); rintro e w1 ⟨rfl, rfl⟩))
  go_ret2
  exact ⟨rfl, rfl⟩
set_option maxHeartbeats 1000000 in
theorem ralive_in {w : World} {g base k : Nat} {day : Int} {L : Nat → Array Value} {v : Value} {n : Int} {i : Nat} (h : RIs w g base k day L v) (hi : i < k) (hn : N (L i) 0 = n) :
    Calls Try.prog 71 #[.pointer (some ⟨g, 0, none⟩), .int .u32 n] w fun e w' => e = .returned (if N (L i) 25 = 3 then .tuple #[.int .i64 0, .int .i64 50] else .tuple #[.int .i64 i, .int .i64 0]) ∧ w = w' := by
  have cp := Lib.hid (rplace_in h hi hn)
  obtain ⟨gb, rc, A, rfl, hA, _⟩ := h.at_row (by omega)
  have hk := h.hk
  have cg := cellF h.row
  have cb := cellF hA.blk
  have hc25 : A[i * 27 + 25]? = some (.int .u8 (N (L i) 25)) := by rw [hA.cell hi (by omega)]; exact (h.con i).st.u8.1
  have hik : (i : Int) < k := by omega
  have hi0 : ¬ (i : Int) < 0 := by omega
  clear h hA hn
  generalize N (L i) 25 = s at *
  by_cases hs : s = 3
  · subst hs
    go_enter Try.func71, Try.ntmps71
    go_wp2_with ((go_at_call 70; (with_reducible refine (cp.out).mono ?_); rintro e w1 ⟨rfl, rfl⟩))
    go_ret2
    exact ⟨rfl, rfl⟩
  · have HS := Lib.hid (show (if s = 3 then Value.tuple #[.int .i64 0, .int .i64 50] else .tuple #[.int .i64 i, .int .i64 0]) = .tuple #[.int .i64 i, .int .i64 0] from if_neg hs)
    rw [HS.out]
    go_enter Try.func71, Try.ntmps71
    go_wp2_with ((go_at_call 70; (with_reducible refine (cp.out).mono ?_); rintro e w1 ⟨rfl, rfl⟩))
    go_ret2
    exact ⟨rfl, rfl⟩
end Go.Proofs.Ytobokknfpjjdeaa
