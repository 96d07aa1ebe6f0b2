/- NetFull, walked: it returns true. No condition. -/
import Derived.Test.YtfgcjgabknoamaaMailIn
namespace Go.Proofs.Ytfgcjgabknoamaa
set_option linter.unusedVariables false
set_option linter.unusedSimpArgs false
open Go.RowKit

/-- some net of k mails -/
def Net (w : World) (g base k : Nat) : Prop := ∃ F T Ag S Ln X, NetIs w g base k F T Ag S Ln X
theorem Net.kept {w w' : World} {g base k : Nat} (h : Net w g base k) (hb : Below w.heap.size w w') : Net w' g base k := by
  obtain ⟨F, T, Ag, S, Ln, X, h⟩ := h
  exact ⟨F, T, Ag, S, Ln, X, h.kept hb⟩
theorem new_at (g : Nat) (w : World) (hg : g = w.heap.size) : Calls Try.prog 8 #[] w fun e w' => e = .returned (.pointer (some ⟨g, 0, none⟩)) ∧ Net w' g g 0 ∧ Below w.heap.size w w' := by
  subst hg
  exact (new_net w).mono fun e w' ⟨h1, h2, h3⟩ => ⟨h1, ⟨_, _, _, _, _, _, h2⟩, h3⟩
theorem send_ok {g base k : Nat} (f t : Int) (a : Option Addr) (n c : Nat) (Y : Nat → Int) {w : World} (hN : Net w g base k) (hY : Byt w a n Y) (hz : a = none → n = 0 ∧ c = 0) (hn : n ≤ 1048576) (hk : k < 2000) :
    Calls Try.prog 9 #[.pointer (some ⟨g, 0, none⟩), .agg (m3 f t (.slice a n c))] w fun e w' => e = .returned (.int .i64 0) ∧ Net w' g base (k + 1) ∧ Below base w w' := by
  obtain ⟨F, T, Ag, S, Ln, X, hN⟩ := hN
  exact (send_any g base k F T Ag S Ln X f t a n c Y w hN hY hz hn hk).mono fun e w' ⟨⟨s, h1, h2⟩, h3⟩ => ⟨h1, ⟨_, _, _, _, _, _, h2⟩, h3⟩
theorem send_no {g base k : Nat} (f t : Int) (a : Option Addr) (n c : Nat) {w : World} (hN : Net w g base k) (hn : n ≤ 1048576) (hk : 2000 ≤ k) :
    Calls Try.prog 9 #[.pointer (some ⟨g, 0, none⟩), .agg (m3 f t (.slice a n c))] w fun e w' => e = .returned (.int .i64 9) ∧ Below w.heap.size w w' := by
  obtain ⟨F, T, Ag, S, Ln, X, hN⟩ := hN
  exact send_full g base k F T Ag S Ln X f t a n c w hN hn hk
set_option maxHeartbeats 1000000 in
theorem twice_no {g base k : Nat} (i : Nat) {w : World} (hN : Net w g base k) (hi : i < k) (hk : 2000 ≤ k) :
    Calls Try.prog 10 #[.pointer (some ⟨g, 0, none⟩), .int .i64 i] w fun e w' => e = .returned (.int .i64 9) ∧ Below w.heap.size w w' := by
  obtain ⟨F, T, Ag, S, Ln, X, hN⟩ := hN
  have hN2 : Net w g base k := ⟨F, T, Ag, S, Ln, X, hN⟩
  obtain ⟨v, hg, hrow⟩ := hN.row
  obtain ⟨ra, rc, rfl, hR, _⟩ := own_rows (c := 4) (fun i => rfl) hrow
  obtain ⟨gb, off, A, fr, rfl, hgA, hszA, hexA⟩ := hR i hi
  have hex : A.extract (off + i * 4) (off + i * 4 + 4) = p4 (F i) (T i) (S i) (Ag i) := hexA
  obtain ⟨sa, sc, hS, _⟩ := id (hN.by_ i hi)
  rw [hS] at hex
  have cg := cellF hg
  have cat := nat_any g base k F T Ag S Ln X i w hN
  have hk2 := hN.hk
  have hln := hN.lg i hi
  rw [show atE k i = 0 by unfold atE; rw [if_pos (by omega)]] at cat
  have HX := Lib.hid (show A.extract (off + i * 4) (off + i * 4 + 3) = m3 (F i) (T i) (.slice sa (Ln i) sc) from by
    have h := congrArg (fun B : Array Value => B.extract 0 3) hex
    simp only [Array.extract_extract] at h
    rw [show min (off + i * 4 + 3) (off + i * 4 + 4) = off + i * 4 + 3 by omega] at h
    exact h)
  have HZ := Lib.hid (show off + i * 4 + 4 ≤ A.size from hszA)
  have cs := Lib.hid (send_no (F i) (T i) sa (Ln i) sc hN2 hln hk)
  clear hN hex hexA hR hrow hS hszA hN2 hln
  generalize F i = fi at *
  generalize T i = ti at *
  generalize Ln i = n at *
  go_enter Try.func10, Try.ntmps10
  go_wp2_with (first | (go_at_call 27; (with_reducible refine (cat).mono ?_); rintro e w1 ⟨rfl, rfl⟩) | ((with_reducible refine at_load 24 ?_); refine wpList_load_part rfl 24 _ rfl (gb) (off + i * 4) rfl _ (A) _ _ 3 (hgA) Try.underlying24 rfl (by kernel_rfl) (by have := HZ.out; omega) (m3 fi ti (.slice sa n sc)) (HX.out) ?_) | (go_at_call 9; (with_reducible refine (cs.out).mono ?_); rintro e w1 ⟨rfl, hb1⟩))
  go_ret
  exact ⟨rfl, hb1⟩
theorem twice_3 {g base k : Nat} {w : World} (hN : Net w g base k) (hk : 2000 ≤ k) :
    Calls Try.prog 10 #[.pointer (some ⟨g, 0, none⟩), .int .i64 3] w fun e w' => e = .returned (.int .i64 9) ∧ Below w.heap.size w w' := twice_no 3 hN (by omega) hk
theorem len_net {g base k : Nat} {w : World} (hN : Net w g base k) : Calls Try.prog 11 #[.pointer (some ⟨g, 0, none⟩)] w fun e w' => e = .returned (.int .i64 k) ∧ w = w' := by
  obtain ⟨F, T, Ag, S, Ln, X, hN⟩ := hN
  exact nlen_any _ _ _ _ _ _ _ _ _ _ hN
set_option maxRecDepth 100000 in
set_option maxHeartbeats 2000000 in
theorem full_walk (f t : Int) (a : Option Addr) (n c : Nat) (X : Nat → Int) (w : World) (hc : n ≤ c) (hc2 : c ≤ 9223372036854775807) (hX : Byt w a n X) (hz : a = none → n = 0 ∧ c = 0) :
    Calls Try.prog 3 #[.agg (m3 f t (.slice a n c))] w fun e w' => e = .returned (.bool true) ∧ Below w.heap.size w w' := by
  have hB := below_new w (Obj.cells (m3 f t (.slice a n c)) 24)
  have hmq := heap_alloc_new w (Obj.cells (m3 f t (.slice a n c)) 24)
  have h2 : (m3 f t (.slice a n c))[2]? = some (.slice a n c) := rfl
  have HS := Lib.hid (fun (g base k : Nat) (w1 : World) (h1 : Net w1 g base k) (h2 : Byt w1 a n X) h3 h4 => send_ok f t a n c X h1 h2 hz h3 h4)
  have HF := Lib.hid (fun (g base k : Nat) (w1 : World) (h1 : Net w1 g base k) h3 h4 => send_no (w := w1) f t a n c h1 h3 h4)
  have HE := Lib.hid (extract_all (show (m3 f t (.slice a n c)).size = 3 from rfl))
  have HZ := Lib.hid (show (m3 f t (.slice a n c)).size = 3 from rfl)
  have HX := Lib.hid hX
  clear hX hz
  generalize m3 f t (.slice a n c) = M at *
  by_cases h100 : 100 < n
  · have cm := cellF hmq
    go_enter Try.func3, Try.ntmps3
    go_wp2_with ((go_at_call 7; (with_reducible refine (known28 _).mono ?_); rintro e w1 ⟨rfl, hb1⟩))
    go_ret
    exact ⟨rfl, below_then hB hb1⟩
  · have cm := cellF hmq
    obtain ⟨g, hg⟩ : ∃ g, g = w.heap.size + 1 := ⟨_, rfl⟩
    have HG := Lib.hid hg
    clear hg
    go_enter Try.func3, Try.ntmps3
    go_wp2_with ((go_at_call 8; (with_reducible refine (new_at g _ (by rw [HG.out]; simp)).mono ?_); rintro e w1 ⟨rfl, hN1, hb1⟩))
    have hB1 := below_then hB hb1
    have hmq1 := Ytfgcjgabknoamaa.kept hb1 hmq
    have hgw : w.heap.size < g := by have := HG.out; omega
    clear hB hb1 hmq cm
    go_loopg [4] 2000 (fun gh i wr => ∃ k : Nat, k ≤ 2000 ∧ gh = 2000 - k ∧ i = .int .i64 k ∧ Net wr g g k ∧ wr.heap[w.heap.size]? = some (.cells M 24 (0, 0)) ∧ Below w.heap.size w wr)
    case atStart => exact ⟨0, by omega, by omega, rfl, hN1, hmq1, hB1⟩
    case round =>
      obtain ⟨k, hk, rfl, rfl, hNr, hmr, hbr⟩ := hrel
      have cmr := cellF hmr
      by_cases hlt : k < 2000
      · have hY := HX.out.kept hbr
        have cs := Lib.hid (HS.out g g k _ hNr hY (by omega) hlt)
        go_wp2_with (first | ((with_reducible refine at_load 24 ?_); refine wpList_load_part rfl 24 _ rfl (w.heap.size) (0) rfl _ (M) _ _ 3 (hmr) Try.underlying24 rfl (by kernel_rfl) (by rw [HZ.out]; omega) (M) (HE.out) ?_) | (go_at_call 9; (with_reducible refine (cs.out).mono ?_); rintro e w2 ⟨rfl, hN2, hb2⟩))
        go_roundg (2000 - (k + 1))
        case measure => omega
        case rel => exact ⟨k + 1, by omega, rfl, by go_num, hN2, (hb2.block _ hgw).trans hmr, hbr.trans (hb2.mono (by omega))⟩
      · obtain rfl : k = 2000 := by omega
        have cs := Lib.hid (HF.out g g 2000 _ hNr (by omega) (by omega))
        go_wp2_with (first | ((with_reducible refine at_load 24 ?_); refine wpList_load_part rfl 24 _ rfl (w.heap.size) (0) rfl _ (M) _ _ 3 (hmr) Try.underlying24 rfl (by kernel_rfl) (by rw [HZ.out]; omega) (M) (HE.out) ?_) | (go_at_call 9; (with_reducible refine (cs.out).mono ?_); rintro e w2 ⟨rfl, hb2⟩; have hN2 := hNr.kept hb2; have hB2 := below_then hbr hb2) | (go_at_call 10; (with_reducible refine (twice_3 hN2 (by omega)).mono ?_); rintro e w3 ⟨rfl, hb3⟩; have hN3 := hN2.kept hb3; have hB3 := below_then hB2 hb3) | (go_at_call 11; (with_reducible refine (len_net hN3).mono ?_); rintro e w4 ⟨rfl, rfl⟩) | (go_at_call 7; (with_reducible refine (known28 _).mono ?_); rintro e w5 ⟨rfl, hb5⟩))
        go_ret
        exact ⟨rfl, below_then hB3 hb5⟩
end Go.Proofs.Ytfgcjgabknoamaa
