/- The statement ScanTurned returns true, whatever legs come in. No condition but that the numbers fit their kinds. -/
import Derived.Test.YtodbbcagpfjieaaSumsW
import Derived.Test.YtodbbcagpfjieaaTurn
import Derived.Test.YtodbbcagpfjieaaTail2
namespace Go.Proofs.Ytodbbcagpfjieaa
set_option linter.unusedVariables false
set_option linter.unusedSimpArgs false
open Go.RowKit

theorem IsLeg.ci {B : Array Value} (h : IsLeg B) {i : Nat} (h1 : 2 ≤ i) (h2 : i < 23) : IsN B .i64 i :=
  (h.spec.c i h1 h2).moved (by rw [Array.getElem?_extract, if_pos (by have := h.size; omega), Nat.zero_add])

set_option maxRecDepth 100000 in
set_option maxHeartbeats 2000000 in
theorem turned_walk (a : Option Addr) (n cap : Nat) (L : Nat → Array Value) (W : World) (hL : ∀ i, IsLeg (L i)) (hA : Legs W a n L) (hn : n ≤ cap) (hc : cap ≤ 9223372036854775807) (hz : a = none → n = 0 ∧ cap = 0) :
    Calls Try.prog 9 #[.slice a n cap] W fun e W' => e = .returned (.bool true) ∧ Below W.heap.size W W' := by
  by_cases hlong : 16 < n
  · go_enter Try.func9, Try.ntmps9
    go_wp2_with (first | (go_at_call 16; (with_reducible refine (known10 _).mono ?_); rintro e w5 ⟨rfl, hb5⟩))
    go_ret
    exact ⟨rfl, hb5⟩
  · have HL := Lib.hid hL
    have HA := Lib.hid hA
    have HZ := Lib.hid hz
    clear hL hA hz
    go_enter Try.func9, Try.ntmps9
    go_wp2_with (first
      | ((with_reducible refine at_append 42 ?_); refine wpList_append_legs rfl _ _ rfl W.heap.size (.slice (some ⟨W.heap.size, 0, none⟩) 0 0) 0 [] rfl (own_empty_b W _ (Nat.le_refl _)) a n cap L HL.out rfl (HA.out.kept (below_new _ _)) HZ.out (by omega) (by simp) ?_; intro v1 w1 hown1 hgr1; obtain ⟨at1, c1, rfl, hot⟩ := own_rows HL.out (by simpa using hown1); clear hown1) | fail)
    have hb1 : Below W.heap.size W w1 := (below_new W _).grown hgr1 (by simp) (fun k hk => by cases hk; exact Nat.le_refl _)
    clear hgr1
    go_loopg [19] n (fun gh i wr => ∃ k : Nat, k ≤ n ∧ gh = n - k ∧ i = .int .i64 k ∧ gds L k ∧ Own wr W.heap.size at1 n (mixT L k) ∧ Below W.heap.size W wr)
    case atStart => exact ⟨0, by omega, by omega, rfl, fun i hi => by omega, hot.congr (fun i hi => by simp [mixT]), hb1⟩
    case round =>
      clear hb1 hot
      obtain ⟨k, hk, rfl, rfl, hgs, hot, hb⟩ := hrel
      by_cases hlt : k < n
      · have hleg := HL.out k
        obtain ⟨aq, bq1, bq2⟩ := hleg.q.i64
        obtain ⟨gt, cur, rfl, hbt, hgt, hszt, hct⟩ := hot.at hlt
        have hc25 := hct 25 (by omega)
        rw [show mixT L k k = L k by simp [mixT], aq] at hc25
        obtain ⟨cT, fT, _⟩ := cells_of hgt
        have HGS := Lib.hid hgs
        have hT0 := Lib.hid (show ∀ i, (if i = k then (mixT L k k).setIfInBounds 25 (.int .i64 (-(N (L k) 25))) else mixT L k i) = midT L k 0 i from midT_start L k)
        have HGD := Lib.hid (show -10000000 ≤ N (L k) 25 → gd (L k) 0 from fun h => ⟨h, fun i hi => by omega⟩)
        clear hct hgs aq
        generalize N (L k) 25 = q at *
        by_cases hq : q < -10000000
        · go_wp2_with (first | (go_at_call 16; (with_reducible refine (known10 _).mono ?_); rintro e w5 ⟨rfl, hb5⟩))
          go_ret
          exact ⟨rfl, below_then hb hb5⟩
        · go_wp2_with fail
          go_loopg [39] 16 (fun gh i wx => ∃ j : Nat, j ≤ 16 ∧ gh = 16 - j ∧ i = .int .i64 j ∧ gd (L k) j ∧ Own wx W.heap.size (some ⟨gt, 0, none⟩) n (midT L k j) ∧ Below W.heap.size W wx)
          case atStart => exact ⟨0, by omega, by omega, rfl, HGD.out (by omega), (hot.set2 hlt (by omega) rfl).congr (fun i hi => hT0.out i), hb.grown (set_grown _ _ _ _) hb.size (fun j hj => by injection hj with hj; subst hj; exact hbt)⟩
          case round =>
            clear hot hgt hc25 cT fT hb hT0
            obtain ⟨j, hj, rfl, rfl, hgd, hot, hb⟩ := hrel
            by_cases hlt2 : j < 16
            · have htl := ts_leg hleg j (by omega) hgd
              obtain ⟨ay, bs1, bs2⟩ := (htl.ci (i := 6 + j) (by omega) (by omega)).i64
              rw [ts_later j j (Nat.le_refl _) hlt2] at ay bs1 bs2
              obtain ⟨g2, cur2, hpp, hbt2, hgt, hszt, hct⟩ := hot.at hlt
              cases hpp
              have hcs := hct (6 + j) (by omega)
              rw [show midT L k j k = ts (L k) j by simp [midT], ay] at hcs
              have hcs' : cur2[k * 26 + 6 + j]? = some (.int .i64 (N (L k) (6 + j))) := by rw [Nat.add_assoc]; exact hcs
              obtain ⟨cT, fT, _⟩ := cells_of hgt
              have hTn := Lib.hid (midT_next L k j)
              have HGN := Lib.hid (show -10000000 ≤ N (L k) (6 + j) → gd (L k) (j + 1) from fun h => ⟨hgd.1, fun i hi => by
                by_cases e : i = j
                · subst e; exact h
                · exact hgd.2 i (by omega)⟩)
              clear ay hct hcs htl hgd
              generalize N (L k) (6 + j) = x at *
              by_cases hx : x < -10000000
              · go_wp2_with (first | (go_at_call 16; (with_reducible refine (known10 _).mono ?_); rintro e w5 ⟨rfl, hb5⟩))
                go_ret
                exact ⟨rfl, below_then hb hb5⟩
              · go_wp2_with fail
                refine wp_region_tail2 16 (by kernel_rfl) (by kernel_rfl) (by kernel_rfl) (by kernel_rfl) rfl rfl (by kernel_rfl) (by kernel_rfl) ?_
                simp only [List.take, List.getD, List.getElem?_cons_succ, List.getElem?_cons_zero, Option.getD]
                repeat (first | ((with_reducible apply q_skip); (case hw => rfl); (try simp only [Act.put, List.setIfInBounds_toArray, List.set_cons_zero, List.set_cons_succ])) | ((with_reducible apply q_val); (case hw => rfl); (case hv => intro wq hbq; have hcq := cellF (Ytodbbcagpfjieaa.kept hbq hgt); go_simp; try rfl); (try simp only [Act.put, List.setIfInBounds_toArray, List.set_cons_zero, List.set_cons_succ])))
                refine q_nil ?_
                intro w6 hb6
                have hgt6 := Ytodbbcagpfjieaa.kept hb6 hgt
                obtain ⟨c6, f6, _⟩ := cells_of hgt6
                clear cT fT
                go_wp2_with fail
                go_roundg (16 - (j + 1))
                case measure => omega
                case rel =>
                  have hb7 := below_then hb hb6
                  exact ⟨j + 1, by omega, rfl, by go_num, HGN.out (by omega), ((hot.below hb6).set2 hlt (by omega) (by rw [Nat.add_assoc])).congr (fun i hi => hTn.out i),
                    hb7.grown (set_grown _ _ _ _) hb7.size (fun j hj => by injection hj with hj; subst hj; exact hbt)⟩
            · obtain rfl : j = 16 := by omega
              go_wp2_with fail
              go_roundg (n - (k + 1))
              case measure => omega
              case rel => exact ⟨k + 1, by omega, rfl, by go_num, fun i hi => by
                by_cases e : i = k
                · subst e; exact hgd
                · exact HGS.out i (by omega), hot.congr (fun i hi => midT_end L k i), hb⟩
      · obtain rfl : k = n := by omega
        have hl2 := hot.legs
        obtain ⟨m1, m2⟩ := m_trn HL.out hgs
        have q1 := margin_any (H := Unit) L a k cap wr HL.out (HA.out.kept hb) (by omega)
        have q2 := fun w2 hb2 => margin_any (H := Unit) (mixT L k) at1 k c1 w2 (mixT_leg HL.out hgs) (hl2.kept hb2) (by omega)
        rw [m1, m2] at q2
        clear hgs hot hl2 m1 m2
        generalize mN L k = m at *
        generalize mE L k = e at *
        go_wp2_with fail
        refine q1.mono ?_
        clear q1
        rintro e1 w3 ⟨rfl, hb3⟩
        go_wp2_with fail
        refine (q2 w3 hb3).mono ?_
        clear q2
        rintro e2 w4 ⟨rfl, hb4⟩
        go_wp2_with (first | (go_at_call 16; (with_reducible refine (known10 _).mono ?_); rintro e w5 ⟨rfl, hb5⟩))
        go_ret
        exact ⟨rfl, below_then hb (below_then (below_then hb3 hb4) hb5)⟩
end Go.Proofs.Ytodbbcagpfjieaa
