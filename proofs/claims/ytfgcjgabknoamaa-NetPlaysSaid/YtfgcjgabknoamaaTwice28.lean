/- net's Twice. Condition: the net is one. -/
import Derived.Test.YtfgcjgabknoamaaNetOps
import Derived.Test.YtfgcjgabknoamaaSendG
import Derived.Test.YtfgcjgabknoamaaTick
namespace Go.Proofs.Ytfgcjgabknoamaa
set_option linter.unusedVariables false
set_option linter.unusedSimpArgs false
open Go.RowKit

theorem twice_out (g base k : Nat) (F T Ag : Nat → Int) (S : Nat → Value) (Ln : Nat → Nat) (X : Nat → Nat → Int) (i : Int) (w : World) (hN : NetIs w g base k F T Ag S Ln X) (hi : ¬ (0 ≤ i ∧ i < k)) :
    Calls Try.prog 10 #[.pointer (some ⟨g, 0, none⟩), .int .i64 i] w fun e w' => e = .returned (.int .i64 7) ∧ w = w' := by
  have ca := nat_any g base k F T Ag S Ln X i w hN
  rw [show atE k i = 7 by unfold atE; rw [if_neg hi]] at ca
  clear hN
  go_enter Try.func10, Try.ntmps10
  go_wp2_with ((go_at_call 27; (with_reducible refine (ca).mono ?_); rintro e w1 ⟨rfl, rfl⟩))
  go_ret
  exact ⟨rfl, rfl⟩
set_option maxRecDepth 100000 in
theorem twice_in (g base k : Nat) (F T Ag : Nat → Int) (S : Nat → Value) (Ln : Nat → Nat) (X : Nat → Nat → Int) (i : Nat) (w : World) (hN : NetIs w g base k F T Ag S Ln X) (hi : i < k) (hk : k < 2000) :
    Calls Try.prog 10 #[.pointer (some ⟨g, 0, none⟩), .int .i64 i] w fun e w' => (∃ s : Value, e = .returned (.int .i64 0) ∧ NetIs w' g base (k + 1) (fun j => if j = k then F i else F j) (fun j => if j = k then T i else T j) (fun j => if j = k then 0 else Ag j) (fun j => if j = k then s else S j) (fun j => if j = k then Ln i else Ln j) (fun j => if j = k then X i else X j) ∧ Fr w.heap.size s) ∧ Below base w w' ∧ Kg g w w' := by
  have ca := nat_any g base k F T Ag S Ln X i w hN
  have hk2 := hN.hk
  rw [show atE k i = 0 by unfold atE; rw [if_pos (by omega)]] at ca
  have HN := Lib.hid hN
  obtain ⟨v, hg, hrow⟩ := hN.row
  obtain ⟨ra, rc, rfl, hR, _⟩ := own_rows (c := 4) (fun i => rfl) hrow
  obtain ⟨gb, off, A, fr, rfl, hgA, hszA, hexA⟩ := hR i hi
  have hex : A.extract (off + i * 4) (off + i * 4 + 4) = p4 (F i) (T i) (S i) (Ag i) := hexA
  obtain ⟨sa, sc, hS, hv1, _, hv3, _⟩ := id (hN.by_ i hi)
  have hby := hN.by_ i hi
  have hln := hN.lg i hi
  rw [hS] at hex hby
  have HX := Lib.hid (show A.extract (off + i * 4) (off + i * 4 + 3) = m3 (F i) (T i) (.slice sa (Ln i) sc) from by
    have h := congrArg (fun B : Array Value => B.extract 0 3) hex
    simp only [Array.extract_extract] at h
    rw [show min (off + i * 4 + 3) (off + i * 4 + 4) = off + i * 4 + 3 by omega] at h
    exact h)
  have hik : (i : Int) < k := by omega
  have cg := cellF hg
  have CS := Lib.hid (send_kg g base k F T Ag S Ln X (F i) (T i) sa (Ln i) sc (X i) w hN hby.byt hv3 hln hk)
  clear hN hrow hR hex hexA hby hS hv1
  generalize m3 (F i) (T i) (.slice sa (Ln i) sc) = M at *
  go_enter Try.func10, Try.ntmps10
  go_wp2_with (first | (go_at_call 27; (with_reducible refine (ca).mono ?_); rintro e w1 ⟨rfl, rfl⟩) | ((with_reducible refine at_load 24 ?_); refine wpList_load_part rfl 24 _ rfl (gb) (off + i * 4) rfl _ (A) _ _ 3 (hgA) Try.underlying24 rfl (by kernel_rfl) (by omega) (M) (HX.out) ?_) | (go_at_call 9; (with_reducible refine (CS.out).mono ?_); rintro e w2 ⟨⟨s, rfl, hN2, hf2⟩, hb2, hk2⟩))
  go_ret
  exact ⟨⟨s, rfl, hN2, hf2⟩, hb2, hk2⟩
set_option maxRecDepth 100000 in
theorem twice_full (g base k : Nat) (F T Ag : Nat → Int) (S : Nat → Value) (Ln : Nat → Nat) (X : Nat → Nat → Int) (i : Nat) (w : World) (hN : NetIs w g base k F T Ag S Ln X) (hi : i < k) (hk : 2000 ≤ k) :
    Calls Try.prog 10 #[.pointer (some ⟨g, 0, none⟩), .int .i64 i] w fun e w' => e = .returned (.int .i64 9) ∧ Below w.heap.size w w' := by
  have ca := nat_any g base k F T Ag S Ln X i w hN
  have hk2 := hN.hk
  rw [show atE k i = 0 by unfold atE; rw [if_pos (by omega)]] at ca
  have HN := Lib.hid hN
  obtain ⟨v, hg, hrow⟩ := hN.row
  obtain ⟨ra, rc, rfl, hR, _⟩ := own_rows (c := 4) (fun i => rfl) hrow
  obtain ⟨gb, off, A, fr, rfl, hgA, hszA, hexA⟩ := hR i hi
  have hex : A.extract (off + i * 4) (off + i * 4 + 4) = p4 (F i) (T i) (S i) (Ag i) := hexA
  obtain ⟨sa, sc, hS, hv1, _, hv3, _⟩ := id (hN.by_ i hi)
  have hby := hN.by_ i hi
  have hln := hN.lg i hi
  rw [hS] at hex hby
  have HX := Lib.hid (show A.extract (off + i * 4) (off + i * 4 + 3) = m3 (F i) (T i) (.slice sa (Ln i) sc) from by
    have h := congrArg (fun B : Array Value => B.extract 0 3) hex
    simp only [Array.extract_extract] at h
    rw [show min (off + i * 4 + 3) (off + i * 4 + 4) = off + i * 4 + 3 by omega] at h
    exact h)
  have hik : (i : Int) < k := by omega
  have cg := cellF hg
  have CS := Lib.hid (send_full g base k F T Ag S Ln X (F i) (T i) sa (Ln i) sc w hN hln hk)
  clear hN hrow hR hex hexA hby hS hv1
  generalize m3 (F i) (T i) (.slice sa (Ln i) sc) = M at *
  go_enter Try.func10, Try.ntmps10
  go_wp2_with (first | (go_at_call 27; (with_reducible refine (ca).mono ?_); rintro e w1 ⟨rfl, rfl⟩) | ((with_reducible refine at_load 24 ?_); refine wpList_load_part rfl 24 _ rfl (gb) (off + i * 4) rfl _ (A) _ _ 3 (hgA) Try.underlying24 rfl (by kernel_rfl) (by omega) (M) (HX.out) ?_) | (go_at_call 9; (with_reducible refine (CS.out).mono ?_); rintro e w2 ⟨rfl, hb2⟩))
  go_ret
  exact ⟨rfl, hb2⟩
end Go.Proofs.Ytfgcjgabknoamaa
