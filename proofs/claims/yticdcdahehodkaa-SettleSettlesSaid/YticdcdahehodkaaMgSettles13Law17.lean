/- Texts that Settles13Law stands on, one behind the other, part 17. Conditions: each theorem names its own. -/
import Derived.Test.YticdcdahehodkaaMgSettles13Law16
/-! SettleSettles, walked: it returns true. Condition: the numbers fit their kinds. -/
namespace Go.Proofs.Yticdcdahehodkaa
set_option linter.unusedVariables false
set_option linter.unusedSimpArgs false
open Go.RowKit

theorem rset_any (fund : Int) (a : Option Addr) (n cap : Nat) (A C V : Nat → Int) (w : World) (hb : ∀ i, (0 ≤ A i ∧ A i ≤ 4294967295) ∧ F64 (C i) ∧ F64 (V i)) (hA : Dues w a n A C V) : RSetC fund a n cap A C V w := by
  by_cases h1 : 64 < n ∨ inB fund 0 1000000000000000 = false
  · exact rset_bad fund a n cap A C V w h1
  · have h2 : inB fund 0 1000000000000000 = true := by
      cases h : inB fund 0 1000000000000000
      · exact absurd (.inr h) h1
      · rfl
    exact rset_main fund a n cap A C V w hb hA (by apply Classical.byContradiction; intro h; exact h1 (.inl (by omega))) (inB_iff.1 h2)
theorem neq_due (x c u : Int) (hx : 0 ≤ x ∧ x ≤ 4294967295) (hc : F64 c) (hu : F64 u) (w : World) : (binOp .neq 39 (.agg (dA x c u)) (.agg (dA x c u))).run Try.prog w = .ok (.bool false) w := by
  have hcs : Try.prog.cellsOf 39 = 3 := by kernel_rfl
  have c2 : Try.prog.cellsOf 2 = 1 := by kernel_rfl
  have c3 : Try.prog.cellsOf 30 = 1 := by kernel_rfl
  refine neq_keys Try.underlying39 (by rw [hcs]; rfl) (by kernel_rfl) (kl_fields Try.underlying39 (by rw [hcs]; rfl) (by kernel_rfl) fun f hf => ?_) w
  simp only [List.mem_cons, List.not_mem_nil, or_false] at hf
  rcases hf with rfl | rfl | rfl
  · exact kl_int Try.underlying30 c3 (IsN_of (n := x) rfl hx)
  · exact kl_int Try.underlying2 c2 (IsN_of (n := c) rfl hc)
  · exact kl_int Try.underlying2 c2 (IsN_of (n := u) rfl hu)
/-- what both answer is alike -/
theorem settle_same {fund : Int} {n s : Nat} {A C V : Nat → Int} {w w' : World} {v v2 : Value} (hb : ∀ i, (0 ≤ A i ∧ A i ≤ 4294967295) ∧ F64 (C i) ∧ F64 (V i)) (hv : SetV fund n A C V s w v) (hv2 : RSetV fund n A C V w' v2) (hw : Below w.heap.size w w') :
    ∃ (a a2 : Option Addr) (m c c2 : Nat) (X Y U : Nat → Int) (D : Nat → Bool), v = .slice a m c ∧ v2 = .slice a2 m c2 ∧ (∀ i, i < m → (0 ≤ X i ∧ X i ≤ 4294967295) ∧ F64 (Y i) ∧ F64 (U i)) ∧ RowsC w' 4 a m (fun i => sA (X i) (Y i) (D i) (U i)) ∧ RowsC w' 4 a2 m (fun i => sA (X i) (Y i) (D i) (U i)) ∧ m ≤ 64 := by
  by_cases h : sE fund n A C V = 0
  · obtain ⟨g, rfl, _, h1⟩ := hv.1 h
    obtain ⟨a2, c2, rfl, h2⟩ := hv2.1 h
    have hh := h
    unfold sE at hh
    split at hh
    · omega
    · rename_i hn
      split at hh
      · omega
      · rename_i hm
        split at hh
        · omega
        · rename_i hs
          have hm2 : (dmay A C V n && inB fund 0 1000000000000000) = true := by
            cases e : (dmay A C V n && inB fund 0 1000000000000000)
            · exact absurd e hm
            · rfl
          rw [Bool.and_eq_true] at hm2
          have hf := inB_iff.1 hm2.2
          refine ⟨_, a2, n, n, c2, _, _, _, _, rfl, rfl, fun i hi => ?_, RowsC.kept h1.rows hw, h2, by omega⟩
          obtain ⟨_, hcd, hvd⟩ := dmay_at hm2.1 hi
          have := cut_le hm2.1 (by omega) hf.1 hi
          refine ⟨(hb i).1, ?_, ?_⟩
          · unfold F64; omega
          · unfold F64; omega
  · rw [hv.2 h, hv2.2 h]
    exact ⟨none, none, 0, 0, 0, fun _ => 0, fun _ => 0, fun _ => 0, fun _ => false, rfl, rfl, fun i hi => by omega, fun i hi => by omega, fun i hi => by omega, by omega⟩

set_option maxRecDepth 100000 in
set_option maxHeartbeats 2000000 in
theorem settles13_walk (fund : Int) (a : Option Addr) (n cap : Nat) (A C V : Nat → Int) (W : World) (hb : ∀ i, (0 ≤ A i ∧ A i ≤ 4294967295) ∧ F64 (C i) ∧ F64 (V i)) (hA : Dues W a n A C V) (hz : a = none → n = 0 ∧ cap = 0) :
    Calls Try.prog 7 #[.int .i64 fund, .slice a n cap] W fun e W' => e = .returned (.bool true) ∧ Below W.heap.size W W' := by
  have HA := Lib.hid hA
  have HB := Lib.hid hb
  have HZ := Lib.hid hz
  clear hA hb hz
  by_cases hl : 200 < n
  · have hli : (200 : Int) < n := by omega
    go_enter Try.func7, Try.ntmps7
    go_wp2_with (first | (go_at_call 15; (with_reducible refine (known13 _).mono ?_); rintro e w5 ⟨rfl, hb5⟩))
    go_ret
    exact ⟨rfl, hb5⟩
  · have hli : ¬ (200 : Int) < n := by omega
    go_enter Try.func7, Try.ntmps7
    go_wp2_with (first
      | ((with_reducible refine at_append 34 ?_); refine wpList_append_rowsC rfl _ _ rfl Try.underlying34 info_due (by omega) (by omega) W.heap.size (.slice (some ⟨W.heap.size, 0, none⟩) 0 0) rfl (own_emptyT W _ _) a n cap (fun i => dA (A i) (C i) (V i)) (fun _ => rfl) (fun _ => dA_all _ _ _) rfl (HA.out.kept (below_new _ _)) HZ.out (by omega) (by simp) ?_; intro v1 w1 hown1 hgr1; replace hown1 := Lib.hid hown1; replace hgr1 := Lib.hid hgr1) | fail)
    have hbW : Below W.heap.size W w1 := (below_new W _).grown hgr1.out (by simp) (fun k hk => by cases hk; exact Nat.le_refl _)
    obtain ⟨a1, c1, rfl, hr1, _⟩ := own_rows (fun i => dA_size _ _ _) hown1.out
    have hl1 : Dues w1 a1 n A C V := fun i hi => by
      obtain ⟨g, off, B, fr, h1, h2, h3, h4⟩ := hr1 i hi
      exact ⟨g, off, B, _, fr, h1, h2, h3, h4⟩
    have cm := settle_any fund a1 n c1 A C V w1 HB.out hl1
    unfold SetC at cm
    refine cm.mono ?_
    clear cm hr1 hown1 hgr1
    rintro e2 w2 ⟨⟨v, rfl, hv⟩, hb2⟩
    go_wp2_with fail
    have cr := rset_any fund a n cap A C V w2 HB.out (HA.out.kept (below_then hbW hb2))
    unfold RSetC at cr
    refine cr.mono ?_
    clear cr
    rintro e3 w3 ⟨⟨v2, rfl, hv2⟩, hb3⟩
    obtain ⟨ax, ay, m, cx, cy, X, Y, U, D, rfl, rfl, hX, hx1, hx2, hm⟩ := settle_same HB.out hv hv2 hb3
    clear hv hv2
    have HX := Lib.hid (And.intro hX (And.intro hx1 hx2))
    have HI := Lib.hid (hl1.kept (below_then hb2 hb3))
    have HBA := Lib.hid (below_then hbW (below_then hb2 hb3))
    clear hX hx1 hx2 hl1 hbW hb2 hb3
    generalize sE fund n A C V = te at *
    generalize sF fund n A C V = tf at *
    go_wp2_with fail
    go_loopg [36] n (fun gh vi wx => ∃ j : Nat, j ≤ n ∧ gh = n - j ∧ vi = .int .i64 j ∧ Below w3.heap.size w3 wx)
    case atStart => exact ⟨0, by omega, by omega, rfl, Below.refl _ _⟩
    case round =>
      obtain ⟨j, hj, rfl, rfl, hbx⟩ := hrel
      have HBX := Lib.hid hbx
      clear hbx
      by_cases hlt : j < n
      · have hji : (j : Int) < n := by omega
        obtain ⟨g, off, B, t, fr, rfl, hg, hs, he⟩ := (HI.out.kept HBX.out) j hlt
        obtain ⟨g2, off2, B2, t2, fr2, rfl, hg2, hs2, he2⟩ := (HA.out.kept (below_then HBA.out HBX.out)) j hlt
        have hne := neq_due (A j) (C j) (V j) (HB.out j).1 (HB.out j).2.1 (HB.out j).2.2
        change _ = dA (A j) (C j) (V j) at he
        change _ = dA (A j) (C j) (V j) at he2
        generalize dA (A j) (C j) (V j) = Z at *
        go_wp2_with fail
        refine wp_region_below (by kernel_rfl) (by kernel_rfl) ?_
        repeat (first | ((with_reducible apply q_skip); (case hw => rfl); (try simp only [Act.put, List.setIfInBounds_toArray, List.set_cons_zero, List.set_cons_succ])) | ((with_reducible refine at_qload 39 ?_); refine q_load_fr (by rfl) 39 _ rfl (g) (off + j * 3) rfl _ (B) _ _ 3 (hg) Try.underlying39 rfl (by kernel_rfl) (hs) (Z) (he) ?_; try simp only [Act.put, List.setIfInBounds_toArray, List.set_cons_zero, List.set_cons_succ]) | ((with_reducible refine at_qload 39 ?_); refine q_load_fr (by rfl) 39 _ rfl (g2) (off2 + j * 3) rfl _ (B2) _ _ 3 (hg2) Try.underlying39 rfl (by kernel_rfl) (hs2) (Z) (he2) ?_; try simp only [Act.put, List.setIfInBounds_toArray, List.set_cons_zero, List.set_cons_succ]) | ((with_reducible apply q_val); (case hw => rfl); (case hv => intro wq hbq; go_simp; try rfl); (try simp only [Act.put, List.setIfInBounds_toArray, List.set_cons_zero, List.set_cons_succ])))
        refine q_nil ?_
        intro w4 hb4
        have HB4 := Lib.hid (below_then HBX.out hb4)
        clear hb4
        go_wp2_with fail
        go_roundg (n - (j + 1))
        case measure => omega
        case rel => exact ⟨j + 1, by omega, rfl, by go_num, HB4.out⟩
      · obtain rfl : j = n := by omega
        go_wp2_with fail
        refine (same13_x ax ay m cx cy X Y D U wr HX.out.1 (RowsC.kept HX.out.2.1 HBX.out) (RowsC.kept HX.out.2.2 HBX.out) (by omega)).mono ?_
        rintro e4 w4 ⟨rfl, hb4⟩
        go_wp2_with (first | (go_at_call 15; (with_reducible refine (known13 _).mono ?_); rintro e w6 ⟨rfl, hb6⟩))
        go_ret
        exact ⟨rfl, below_then HBA.out (below_then HBX.out (below_then hb4 hb6))⟩
theorem settles13_w (fund : Int) (a : Option Addr) (n cap : Nat) (A C V : Nat → Int) (W : World) (_ : F64 fund) (hb : ∀ i, (0 ≤ A i ∧ A i ≤ 4294967295) ∧ F64 (C i) ∧ F64 (V i)) (hA : Dues W a n A C V) (_ : n ≤ cap) (_ : cap ≤ 9223372036854775807) (hz : a = none → n = 0 ∧ cap = 0) :
    Calls Try.prog 7 #[.int .i64 fund, .slice a n cap] W fun e W' => e = .returned (.bool true) ∧ Below W.heap.size W W' := settles13_walk fund a n cap A C V W hb hA hz
end Go.Proofs.Yticdcdahehodkaa
