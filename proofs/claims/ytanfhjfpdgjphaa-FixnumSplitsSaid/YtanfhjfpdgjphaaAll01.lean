/- The statement FixnumAll returns true, whatever slice comes in. No condition but that the numbers fit their kinds. -/
import Derived.Test.YtanfhjfpdgjphaaRSum
import Derived.Test.YtanfhjfpdgjphaaIntA
import Derived.Deep.Slices
import Derived.OpenShut
import Derived.Laws.AppendOwn
import Derived.Laws.AppendOwnNone
namespace Go.Proofs.Ytanfhjfpdgjphaa
set_option linter.unusedVariables false
set_option linter.unusedSimpArgs false
open Go.RowKit Go.Deep

section
variable {H : Type} {enc : TypeId × Value → H} {w : World} {base : Nat} {spare : Nat → Bool} {held : Bool}
theorem ints_cells {a : Addr} {n : Nat} {Z : Nat → Int} (h : ∀ i, i < n → w.cell? (a.add i) = some (.int .i64 (Z i))) : Ints w (some a) n Z := by
  intro i hi
  obtain ⟨b, o, sp⟩ := a
  have h00 := h 0 (by omega)
  rw [show (⟨b, o, sp⟩ : Addr).add 0 = ⟨b, o, sp⟩ from rfl] at h00
  unfold World.cell? at h00
  cases hb : w.heap[b]? with
  | none => simp [hb] at h00
  | some ob =>
    cases ob with
    | cells A t fr =>
      simp only [hb] at h00
      cases sp with
      | some s => simp at h00
      | none =>
        have hA := h i hi
        have : (⟨b, o, none⟩ : Addr).add i = ⟨b, o + i, none⟩ := by unfold Addr.add; split <;> simp_all
        rw [this, cellF hb] at hA
        exact ⟨b, o, A, t, fr, rfl, hb, hA⟩
    | _ => simp [hb] at h00
theorem ints_of {r : Reach} {b : Nat} {v : Value} {d : DataW H} {p : List MemPlace} (hv : Value.okWide Try.prog w r b 30 v) (h : DataW.Trod enc Try.prog w 0 spare held 30 v d p) :
    ∃ (a : Option Addr) (n cap : Nat) (Z : Nat → Int), v = .slice a n cap ∧ n ≤ cap ∧ cap ≤ 9223372036854775807 ∧ (∀ i, F64 (Z i)) ∧ Ints w a n Z ∧ (a = none → n = 0 ∧ cap = 0) := by
  obtain ⟨m, hm⟩ := h
  obtain ⟨a, n, cap, rfl⟩ : ∃ a n cap, v = .slice a n cap := by
    unfold Value.okWide Cell.okWide at hv
    simp only [Try.underlying30] at hv
    unfold Cell.ok at hv
    simp only [Try.underlying30] at hv
    cases v <;> simp_all
  refine ⟨a, n, cap, ?_⟩
  have c1 : Try.prog.cellsOf 2 = 1 := by kernel_rfl
  rcases open_slice1 Try.underlying30 c1 hm with ⟨hc, _⟩ | ⟨a', len, cap', m', f, V, D, Pl, hc, _, hl, hmx, hmm, _, hx⟩
  · simp [Value.cells] at hc
    obtain ⟨rfl, rfl, rfl⟩ := hc
    exact ⟨fun _ => 0, rfl, by omega, by omega, fun _ => by show F64 0; unfold F64; omega, fun i hi => by omega, fun _ => ⟨rfl, rfl⟩⟩
  · simp [Value.cells] at hc
    obtain ⟨rfl, rfl, rfl⟩ := hc
    have hlm : n ≤ m' := by rw [hmm]; split <;> omega
    obtain ⟨Z, hZ⟩ := choose_lt (α := Int) (n := n) (p := fun i z => w.cell? (a'.add i) = some (.int .i64 z) ∧ F64 z) (fun i hi => by
      obtain ⟨h1, h2⟩ := hx i (by omega)
      obtain ⟨z, h3, _, h4⟩ := DataW.trod_int Try.underlying2 h2
      injection h3 with h3
      refine ⟨z, by rw [h1, h3], ?_⟩
      simpa [Lit.wf, F64, IntKind.min, IntKind.max, IntKind.signed, IntKind.bits] using h4)
    refine ⟨fun i => if i < n then Z i else 0, rfl, hl, by unfold maxLen at hmx; omega, fun i => ?_, ints_cells (fun i hi => by simp only [hi, if_true]; exact (hZ i hi).1), fun h => by cases h⟩
    simp only
    split
    · rename_i hi; exact (hZ i hi).2
    · unfold F64; omega
end

set_option maxRecDepth 100000 in
set_option maxHeartbeats 1000000 in
theorem all_walk (a : Option Addr) (n cap : Nat) (Z : Nat → Int) (W : World) (hZ : ∀ i, F64 (Z i)) (hA : Ints W a n Z) (hn : n ≤ cap) (hc : cap ≤ 9223372036854775807) (hz : a = none → n = 0 ∧ cap = 0) :
    Calls Try.prog 8 #[.slice a n cap] W fun e W' => e = .returned (.bool true) ∧ Below W.heap.size W W' := by
  by_cases hlong : 2000 < n
  · go_enter Try.func8, Try.ntmps8
    go_wp2_with (first | (go_at_call 17; (with_reducible refine (known01 _).mono ?_); rintro e w5 ⟨rfl, hb5⟩))
    go_ret
    exact ⟨rfl, hb5⟩
  · have HA := Lib.hid hA
    have HZ := Lib.hid hz
    have HF := Lib.hid hZ
    clear hA hz hZ
    go_enter Try.func8, Try.ntmps8
    go_wp2_with (first
      | ((with_reducible refine at_append 30 ?_); refine wpList_append_ints rfl _ _ rfl W.heap.size (.slice (some ⟨W.heap.size, 0, none⟩) 0 0) 0 [] rfl (own_empty1 W _) a n cap Z rfl (HA.out.kept (below_new _ _)) HZ.out (by omega) (by simp) ?_; intro v1 w1 hown1 hgr1; obtain ⟨a1, c1, rfl, hl1⟩ := own_ints (n := n) (Z := Z) (by simpa using hown1); clear hown1) | fail)
    have hbW : Below W.heap.size W w1 := (below_new W _).grown hgr1 (by simp) (fun k hk => by cases hk; exact Nat.le_refl _)
    have cm := fsum_any a1 n c1 Z w1 HF.out hl1 (by omega)
    have cr := rsum_any a n cap Z w1 HF.out (HA.out.kept hbW) (by omega)
    have cs := fun w2 hb2 => rsame_any a1 a n c1 cap Z w2 HF.out (hl1.kept hb2) (HA.out.kept (below_then hbW hb2)) (by omega)
    generalize fitN (sumZ Z n) = m at *
    generalize fitE (sumZ Z n) = e at *
    refine cm.mono ?_
    clear cm
    rintro e2 w2 ⟨rfl, rfl⟩
    go_wp2_with fail
    refine cr.mono ?_
    clear cr
    rintro e3 w3 ⟨rfl, hb3⟩
    go_wp2_with fail
    refine (cs w3 hb3).mono ?_
    clear cs
    rintro e4 w4 ⟨rfl, hb4⟩
    go_wp2_with (first | (go_at_call 17; (with_reducible refine (known01 _).mono ?_); rintro e w5 ⟨rfl, hb5⟩))
    go_ret
    exact ⟨rfl, below_then hbW (below_then (below_then hb3 hb4) hb5)⟩
end Go.Proofs.Ytanfhjfpdgjphaa
