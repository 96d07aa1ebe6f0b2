/- FixnumSplits, walked: it returns true. Condition: the numbers fit their kinds; the weights take no more than the form's reach. -/
import Derived.Test.YtanfhjfpdgjphaaRSplZ
import Derived.Test.YtanfhjfpdgjphaaSplitA
import Derived.Test.YtanfhjfpdgjphaaAll01
namespace Go.Proofs.Ytanfhjfpdgjphaa
set_option linter.unusedVariables false
set_option linter.unusedSimpArgs false
open Go.RowKit Go.Deep

set_option maxRecDepth 100000 in
set_option maxHeartbeats 2000000 in
/-- two slices of the same numbers, of whatever length -/
theorem rsame_big (a b : Option Addr) (n ca cb : Nat) (Z : Nat → Int) (w : World) (hZ : ∀ i, F64 (Z i)) (hA : Ints w a n Z) (hB : Ints w b n Z) (hn : (n : Int) ≤ 17592186043904) :
    Calls Try.prog 28 #[.slice a n ca, .slice b n cb] w fun e w' => e = .returned (.bool true) ∧ Below w.heap.size w w' := by
  have HA := Lib.hid hA
  have HB := Lib.hid hB
  have HZ := Lib.hid hZ
  clear hA hB hZ
  go_enter Try.func28, Try.ntmps28
  go_wp2
  go_loopg [5] n (fun gh i wr => ∃ k : Nat, k ≤ n ∧ gh = n - k ∧ i = .int .i64 k ∧ Below w.heap.size w wr)
  case atStart => exact ⟨0, by omega, by omega, rfl, Below.refl _ _⟩
  case round =>
    obtain ⟨k, hk, rfl, rfl, hb⟩ := hrel
    by_cases hlt : k < n
    · obtain ⟨g, off, A, t, fr, rfl, hgA, hz⟩ := (HA.out.kept hb) k hlt
      obtain ⟨g2, off2, A2, t2, fr2, rfl, hgB, hz2⟩ := (HB.out.kept hb) k hlt
      have hki : (k : Int) < n := by omega
      generalize Z k = z at *
      go_wp2
      refine wp_region_below (by kernel_rfl) (by kernel_rfl) ?_
      repeat (first | ((with_reducible apply q_skip); (case hw => rfl); (try simp only [Act.put, List.setIfInBounds_toArray, List.set_cons_zero, List.set_cons_succ])) | ((with_reducible apply q_val); (case hw => rfl); (case hv => intro wq hbq; have hcq := cellF (Ytanfhjfpdgjphaa.kept hbq hgA); have hcr := cellF (Ytanfhjfpdgjphaa.kept hbq hgB); go_simp; try rfl); (try simp only [Act.put, List.setIfInBounds_toArray, List.set_cons_zero, List.set_cons_succ])))
      refine q_nil ?_
      intro w4 hb4
      go_wp2
      go_roundg (n - (k + 1))
      case measure => omega
      case rel => exact ⟨k + 1, by omega, rfl, by go_num, below_then hb hb4⟩
    · obtain rfl : k = n := by omega
      go_wp2
      go_ret
      exact ⟨rfl, hb⟩

/-- the parts as the numbers of a slice -/
def prS (Z : Nat → Int) (n : Nat) (T : Int) : Nat → Int := fun i => if i < n then (splP Z n T i : Nat) else 0
theorem prS_bd {Z : Nat → Int} {n : Nat} {T : Int} (h : splE Z n T = 0) (hT : F64 T) : ∀ i, F64 (prS Z n T i) := fun i => by
  obtain ⟨h1, h2, h3, h4, h5, h6⟩ := splE_zero h
  unfold prS
  split
  · rename_i hi
    unfold F64 at hT ⊢
    by_cases h0 : T = 0
    · subst h0; rw [show splP Z n 0 i = 0 from prt_zero _ _ _]; omega
    · have := prt_le (W := wts Z) (T := T.toNat) (h4 h0) hi
      have e : splP Z n T i = prt (wts Z) n T.toNat i := rfl
      omega
  · unfold F64; omega
/-- what both splits answer is alike: two slices of the same numbers -/
theorem both_same {Z : Nat → Int} {n s s2 : Nat} {T : Int} {w w' : World} {v v2 : Value} (hT : F64 T) (hv : SplV Z n T s w v) (hv2 : RSplV Z n T s2 w' v2) (hb : Below w.heap.size w w') :
    ∃ (a a2 : Option Addr) (m c c2 : Nat) (X : Nat → Int), v = .slice a m c ∧ v2 = .slice a2 m c2 ∧ (∀ i, F64 (X i)) ∧ Ints w' a m X ∧ Ints w' a2 m X ∧ m ≤ 1000 := by
  by_cases h : splE Z n T = 0
  · obtain ⟨g, P, rfl, _, hg, hs, hp⟩ := hv.1 h
    have hn := (splE_zero h).1
    have ho := hv2.1 h
    rw [show zl (fun i => ((splP Z n T i : Nat) : Int)) n = zl (prS Z n T) n from by
      unfold zl
      apply List.map_congr_left
      intro i hi
      have hi := List.mem_range.1 hi
      unfold prS; rw [if_pos hi]] at ho
    obtain ⟨a2, c2, rfl, h2⟩ := own_ints ho
    exact ⟨_, a2, n, n, c2, prS Z n T, rfl, rfl, prS_bd h hT, fun i hi => ⟨g, 0, P, _, _, rfl, Ytanfhjfpdgjphaa.kept hb hg, by rw [Nat.zero_add, hp i hi]; unfold prS; rw [if_pos hi]⟩, h2, hn⟩
  · rw [hv.2 h, hv2.2 h]
    exact ⟨none, none, 0, 0, 0, fun _ => 0, rfl, rfl, fun _ => by show F64 0; unfold F64; omega, fun i hi => by omega, fun i hi => by omega, by omega⟩

section
variable {H : Type} {enc : TypeId × Value → H} {w : World} {base : Nat} {spare : Nat → Bool} {held : Bool}
/-- what is read of a slice is as long as it -/
theorem reach_ints {a : Option Addr} {n cap : Nat} {d : DataW H} {p : List MemPlace} (h : DataW.Trod enc Try.prog w 0 spare held 30 (.slice a n cap) d p)
    (hb : ∀ elems spare : List (DataW H), d = .slice elems spare → elems.length ≤ 17592186043904) : (n : Int) ≤ 17592186043904 := by
  obtain ⟨m, hm⟩ := h
  have c1 : Try.prog.cellsOf 2 = 1 := by kernel_rfl
  rcases open_slice1 Try.underlying30 c1 hm with ⟨hc, _⟩ | ⟨a', len, cap', m', f, V, D, Pl, hc, hx⟩
  · simp [Value.cells] at hc
    omega
  · simp [Value.cells] at hc
    obtain ⟨rfl, rfl, rfl⟩ := hc
    obtain ⟨_, _, _, _, hd, _⟩ := hx
    injection hd with hd _
    have := hb _ _ hd
    simp at this
    omega
end
set_option maxRecDepth 100000 in
set_option maxHeartbeats 2000000 in
theorem splits_walk (T : Int) (a : Option Addr) (n cap : Nat) (Z : Nat → Int) (W : World) (hT : F64 T) (hZ : ∀ i, F64 (Z i)) (hA : Ints W a n Z) (hz : a = none → n = 0 ∧ cap = 0) (hr : (n : Int) ≤ 17592186043904) :
    Calls Try.prog 10 #[.int .i64 T, .slice a n cap] W fun e W' => e = .returned (.bool true) ∧ Below W.heap.size W W' := by
  have HA := Lib.hid hA
  have HZ := Lib.hid hz
  have HF := Lib.hid hZ
  have HT := Lib.hid hT
  have HR := Lib.hid hr
  clear hA hz hZ hT
  by_cases hmid : 60 < n ∧ n ≤ 1000
  · have h1 : (60 : Int) < n := by omega
    have h2 : (n : Int) ≤ 1000 := by omega
    clear hmid hr
    go_enter Try.func10, Try.ntmps10
    go_wp2_with (first | (go_at_call 17; (with_reducible refine (known01 _).mono ?_); rintro e w5 ⟨rfl, hb5⟩))
    go_ret
    exact ⟨rfl, hb5⟩
  · have hguard : ¬ (60 : Int) < n ∨ ((60 : Int) < n ∧ ¬ (n : Int) ≤ 1000) := by omega
    rcases hguard with h1 | ⟨h1, h2⟩
    · clear hmid
      go_enter Try.func10, Try.ntmps10
      go_wp2_with (first
        | ((with_reducible refine at_append 30 ?_); refine wpList_append_ints rfl _ _ rfl W.heap.size (.slice (some ⟨W.heap.size, 0, none⟩) 0 0) 0 [] rfl (own_empty1 W _) a n cap Z rfl (HA.out.kept (below_new _ _)) HZ.out (by have := HR.out; omega) (by simp) ?_; intro v1 w1 hown1 hgr1; obtain ⟨a1, c1, rfl, hl1⟩ := own_ints (n := n) (Z := Z) (by simpa using hown1); clear hown1) | fail)
      have hbW : Below W.heap.size W w1 := (below_new W _).grown hgr1 (by simp) (fun k hk => by cases hk; exact Nat.le_refl _)
      have cm := split_any a1 n c1 Z T w1 HF.out hl1 HT.out
      unfold SplC at cm
      refine cm.mono ?_
      clear cm
      rintro e2 w2 ⟨⟨v, rfl, hv⟩, hb2⟩
      go_wp2_with fail
      have cr := rspl_any a n cap Z T w2 HF.out (HA.out.kept (below_then hbW hb2)) HT.out
      unfold RSplC at cr
      refine cr.mono ?_
      clear cr
      rintro e3 w3 ⟨⟨v2, rfl, hv2⟩, hb3⟩
      obtain ⟨ax, ay, m, cx, cy, X, rfl, rfl, hX, hx1, hx2, hm⟩ := both_same HT.out hv hv2 hb3
      clear hv hv2
      have HX := Lib.hid (And.intro hX (And.intro hx1 hx2))
      have HI := Lib.hid (hl1.kept (below_then hb2 hb3))
      have hbA := below_then hbW (below_then hb2 hb3)
      clear hX hx1 hx2 hl1
      generalize splE Z n T = te at *
      go_wp2_with fail
      refine (rsame_any ax ay m cx cy X w3 HX.out.1 HX.out.2.1 HX.out.2.2 (by omega)).mono ?_
      rintro e4 w4 ⟨rfl, hb4⟩
      go_wp2_with fail
      refine (rsame_big a1 a n c1 cap Z w4 HF.out (HI.out.kept hb4) (HA.out.kept (below_then hbA hb4)) HR.out).mono ?_
      rintro e5 w5 ⟨rfl, hb5⟩
      go_wp2_with (first | (go_at_call 17; (with_reducible refine (known01 _).mono ?_); rintro e w6 ⟨rfl, hb6⟩))
      go_ret
      exact ⟨rfl, below_then hbA (below_then hb4 (below_then hb5 hb6))⟩
    · clear hmid
      go_enter Try.func10, Try.ntmps10
      go_wp2_with (first
        | ((with_reducible refine at_append 30 ?_); refine wpList_append_ints rfl _ _ rfl W.heap.size (.slice (some ⟨W.heap.size, 0, none⟩) 0 0) 0 [] rfl (own_empty1 W _) a n cap Z rfl (HA.out.kept (below_new _ _)) HZ.out (by have := HR.out; omega) (by simp) ?_; intro v1 w1 hown1 hgr1; obtain ⟨a1, c1, rfl, hl1⟩ := own_ints (n := n) (Z := Z) (by simpa using hown1); clear hown1) | fail)
      have hbW : Below W.heap.size W w1 := (below_new W _).grown hgr1 (by simp) (fun k hk => by cases hk; exact Nat.le_refl _)
      have cm := split_any a1 n c1 Z T w1 HF.out hl1 HT.out
      unfold SplC at cm
      refine cm.mono ?_
      clear cm
      rintro e2 w2 ⟨⟨v, rfl, hv⟩, hb2⟩
      go_wp2_with fail
      have cr := rspl_any a n cap Z T w2 HF.out (HA.out.kept (below_then hbW hb2)) HT.out
      unfold RSplC at cr
      refine cr.mono ?_
      clear cr
      rintro e3 w3 ⟨⟨v2, rfl, hv2⟩, hb3⟩
      obtain ⟨ax, ay, m, cx, cy, X, rfl, rfl, hX, hx1, hx2, hm⟩ := both_same HT.out hv hv2 hb3
      clear hv hv2
      have HX := Lib.hid (And.intro hX (And.intro hx1 hx2))
      have HI := Lib.hid (hl1.kept (below_then hb2 hb3))
      have hbA := below_then hbW (below_then hb2 hb3)
      clear hX hx1 hx2 hl1
      generalize splE Z n T = te at *
      go_wp2_with fail
      refine (rsame_any ax ay m cx cy X w3 HX.out.1 HX.out.2.1 HX.out.2.2 (by omega)).mono ?_
      rintro e4 w4 ⟨rfl, hb4⟩
      go_wp2_with fail
      refine (rsame_big a1 a n c1 cap Z w4 HF.out (HI.out.kept hb4) (HA.out.kept (below_then hbA hb4)) HR.out).mono ?_
      rintro e5 w5 ⟨rfl, hb5⟩
      go_wp2_with (first | (go_at_call 17; (with_reducible refine (known01 _).mono ?_); rintro e w6 ⟨rfl, hb6⟩))
      go_ret
      exact ⟨rfl, below_then hbA (below_then hb4 (below_then hb5 hb6))⟩
end Go.Proofs.Ytanfhjfpdgjphaa
