/- The statement ScanMargins returns true, whatever legs come in. No condition but that the numbers fit their kinds. -/
import Derived.Test.YtodbbcagpfjieaaKnown10
import Derived.Test.YtodbbcagpfjieaaCopy
namespace Go.Proofs.Ytodbbcagpfjieaa
set_option linter.unusedVariables false
set_option linter.unusedSimpArgs false
open Go.RowKit

theorem own_empty (W : World) (e : TypeId) : (W.alloc (.cells #[] e)).ownsRow W.heap.size e 26 (.slice (some ⟨W.heap.size, 0, none⟩) 0 0) 0 [] :=
  ⟨rfl, .inr ⟨W.heap.size, 0, #[], rfl, Nat.le_refl _, heap_alloc_new _ _, Nat.le_refl _, by unfold maxLen; omega, rfl, rfl⟩⟩

theorem neq_leg {A : Array Value} (h : IsLeg A) (w : World) : (binOp .neq 45 (.agg A) (.agg A)).run Try.prog w = .ok (.bool false) w := by
  rw [run_neq_struct, eq_leg h]
  rfl

set_option maxRecDepth 100000 in
set_option maxHeartbeats 1000000 in
theorem margins_walk (a : Option Addr) (n cap : Nat) (L : Nat → Array Value) (W : World) (hL : ∀ i, IsLeg (L i)) (hA : Legs W a n L) (hn : n ≤ cap) (hc : cap ≤ 9223372036854775807) (hz : a = none → n = 0 ∧ cap = 0) :
    Calls Try.prog 6 #[.slice a n cap] W fun e W' => e = .returned (.bool true) ∧ Below W.heap.size W W' := by
  by_cases hlong : 100 < n
  · go_enter Try.func6, Try.ntmps6
    go_wp2_with (first | (go_at_call 16; (with_reducible refine (known10 _).mono ?_); rintro e w5 ⟨rfl, hb5⟩))
    go_ret
    exact ⟨rfl, hb5⟩
  · have HL := Lib.hid hL
    have HA := Lib.hid hA
    have HZ := Lib.hid hz
    clear hL hA hz
    go_enter Try.func6, Try.ntmps6
    go_wp2_with (first
      | ((with_reducible refine at_append 42 ?_); refine wpList_append_legs rfl _ _ rfl W.heap.size (.slice (some ⟨W.heap.size, 0, none⟩) 0 0) 0 [] rfl (own_empty W _) a n cap L HL.out rfl (HA.out.kept (below_new _ _)) HZ.out (by omega) (by simp) ?_; intro v1 w1 hown1 hgr1)
      | fail)
    have hbW : Below W.heap.size W w1 := (below_new W _).grown hgr1 (by simp) (fun k hk => by cases hk; exact Nat.le_refl _)
    obtain ⟨a1, c1, rfl, hl1⟩ := own_legs HL.out (by simpa using hown1)
    clear hown1 hgr1
    have HA1 := Lib.hid hl1
    clear hl1
    have cm := margin_any (H := Unit) L a1 n c1 w1 HL.out HA1.out (by omega)
    have cr := fun w2 hb2 => rmargin_any L a n cap w2 HL.out (HA.out.kept (below_then hbW hb2)) (by omega)
    generalize mN L n = m at *
    generalize mE L n = e at *
    refine cm.mono ?_
    clear cm
    rintro e2 w2 ⟨rfl, hb2⟩
    go_wp2_with fail
    refine (cr w2 hb2).mono ?_
    clear cr
    rintro e3 w3 ⟨rfl, hb3⟩
    have hb3' := below_then hb2 hb3
    have hgt : Try.prog.eqGuardType Try.prog.depth 45 = false := by kernel_rfl
    go_wp2
    go_loopg [28] n (fun gh i wr => ∃ k : Nat, k ≤ n ∧ gh = n - k ∧ i = .int .i64 k ∧ Below w1.heap.size w1 wr)
    case atStart => exact ⟨0, by omega, by omega, rfl, hb3'⟩
    case round =>
      clear hb3'
      obtain ⟨k, hk, rfl, rfl, hb⟩ := hrel
      by_cases hlt : k < n
      · obtain ⟨g, off, A, t, fr, rfl, hgA, hszA, hexA⟩ := (HA.out.kept (below_then hbW hb)) k hlt
        obtain ⟨g1, off1, A1, t1, fr1, rfl, hgA1, hszA1, hexA1⟩ := (HA1.out.kept hb) k hlt
        have hne := neq_leg (HL.out k)
        have HE := Lib.hid hexA
        have HS := Lib.hid hszA
        have HE1 := Lib.hid hexA1
        have HS1 := Lib.hid hszA1
        clear hexA hszA hexA1 hszA1
        go_wp2
        refine wp_region_below (by kernel_rfl) (by kernel_rfl) ?_
        repeat (first | ((with_reducible apply q_skip); (case hw => rfl); (try simp only [Act.put, List.setIfInBounds_toArray, List.set_cons_zero, List.set_cons_succ])) | ((with_reducible refine at_qload 45 ?_); refine q_load_fr (by rfl) 45 _ rfl (g1) (off1 + k * 26) rfl _ (A1) _ _ 26 (hgA1) Try.underlying45 rfl (by kernel_rfl) (by have := HS1.out; omega) (L k) (HE1.out) ?_; try simp only [Act.put, List.setIfInBounds_toArray, List.set_cons_zero, List.set_cons_succ]) | ((with_reducible refine at_qload 45 ?_); refine q_load_fr (by rfl) 45 _ rfl (g) (off + k * 26) rfl _ (A) _ _ 26 (hgA) Try.underlying45 rfl (by kernel_rfl) (by have := HS.out; omega) (L k) (HE.out) ?_; try simp only [Act.put, List.setIfInBounds_toArray, List.set_cons_zero, List.set_cons_succ]) | ((with_reducible apply q_val); (case hw => rfl); (case hv => intro wq hbq; go_simp; try rfl); (try simp only [Act.put, List.setIfInBounds_toArray, List.set_cons_zero, List.set_cons_succ])))
        refine q_nil ?_
        intro w6 hb6
        go_wp2
        go_roundg (n - (k + 1))
        case measure => omega
        case rel => exact ⟨k + 1, by omega, rfl, by go_num, below_then hb hb6⟩
      · obtain rfl : k = n := by omega
        go_wp2_with (first | (go_at_call 16; (with_reducible refine (known10 _).mono ?_); rintro e w5 ⟨rfl, hb5⟩))
        go_ret
        exact ⟨rfl, below_then hbW (below_then hb hb5)⟩
end Go.Proofs.Ytodbbcagpfjieaa
