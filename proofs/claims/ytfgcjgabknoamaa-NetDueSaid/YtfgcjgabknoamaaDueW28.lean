/- NetDue, walked: it returns true. No condition. -/
import Derived.Test.YtfgcjgabknoamaaDueP28
import Derived.BigQuiet
namespace Go.Proofs.Ytfgcjgabknoamaa
set_option linter.unusedVariables false
set_option linter.unusedSimpArgs false
open Go.RowKit

def z200 : Array Value := Array.replicate 200 (.bool false)
theorem z200_size : z200.size = 200 := by simp [z200]
theorem z200_at (f : Nat) (hf : f < 200) : z200[f]? = some (.bool false) := by simp [z200, hf]
/-- the net and who was seen -/
structure DW (w : World) (g gs k sent : Nat) (b : Int) (F T Ag : Nat → Int) (S : Nat → Value) (Ln : Nat → Nat) (X : Nat → Nat → Int) (sb : Nat → Bool) (SA : Array Value) : Prop where
  net : NetIs w g g k F T Ag S Ln X
  blk : w.heap[gs]? = some (.cells SA 35 (0, 0))
  sz : SA.size = 200
  at_ : ∀ f, f < 200 → SA[f]? = some (.bool (sb f))
  dp : DP k sent b F Ag Ln X sb
def Dw (w : World) (g gs k sent : Nat) (b : Int) : Prop := ∃ F T Ag S Ln X sb SA, DW w g gs k sent b F T Ag S Ln X sb SA
theorem Dw.kept {w w' : World} {g gs k sent : Nat} {b : Int} (h : Dw w g gs k sent b) (hb : Below w.heap.size w w') : Dw w' g gs k sent b := by
  obtain ⟨F, T, Ag, S, Ln, X, sb, SA, h⟩ := h
  exact ⟨F, T, Ag, S, Ln, X, sb, SA, h.net.kept hb, Ytfgcjgabknoamaa.kept hb h.blk, h.sz, h.at_, h.dp⟩
theorem dw_send {g gs k sent : Nat} {b : Int} {gx : Nat} {fr : Nat × Nat} {w : World} (h : Dw w g gs k sent b) (hb : 0 ≤ b) (hs : sent < 200) (hx : w.heap[gx]? = some (.cells #[.int .u8 sent] 5 fr)) :
    Calls Try.prog 9 #[.pointer (some ⟨g, 0, none⟩), .agg (m3 sent 0 (.slice (some ⟨gx, 0, none⟩) 1 1))] w fun e w' => e = .returned (.int .i64 0) ∧ Dw w' g gs (k + 1) (sent + 1) b ∧ Below g w w' := by
  obtain ⟨F, T, Ag, S, Ln, X, sb, SA, h⟩ := h
  have := h.dp.ks
  have := h.dp.s2
  refine (send_kp g g k F T Ag S Ln X sent 0 (some ⟨gx, 0, none⟩) 1 1 (fun _ => sent) w h.net (byt1 hx) (fun h => by cases h) (by omega) (by omega)).mono fun e w' ⟨⟨s, he, hN⟩, hb', hk⟩ => ⟨he, ⟨_, _, _, _, _, _, sb, SA, hN, hk _ _ _ _ h.blk (by decide) (by decide), h.sz, h.at_, h.dp.send hs hb⟩, hb'⟩
theorem du_none {Ag : Nat → Int} {x : Int} {k : Nat} (h : du Ag x k < 0) : duN Ag x k = 0 ∧ duE Ag x k = 7 := by unfold duN duE; rw [if_pos h, if_pos h]; exact ⟨rfl, rfl⟩
theorem du_some {Ag : Nat → Int} {x : Int} {k p : Nat} (h : du Ag x k = p) : duN Ag x k = p ∧ duE Ag x k = 0 := by unfold duN duE; rw [if_neg (by omega), if_neg (by omega), h]; exact ⟨rfl, rfl⟩
theorem dw_tick {g gs k sent : Nat} {b : Int} {w : World} (h : ∃ F T Ag S Ln X sb SA, DW w g gs k sent b F T Ag S Ln X sb SA ∧ du Ag b k < 0) :
    Calls Try.prog 14 #[.pointer (some ⟨g, 0, none⟩)] w fun e w' => e = .returned (.tuple #[]) ∧ Dw w' g gs k sent b ∧ Below g w w' := by
  obtain ⟨F, T, Ag, S, Ln, X, sb, SA, h, hd⟩ := h
  exact (tick_kp g g k F T Ag S Ln X w h.net).mono fun e w' ⟨he, hN, hb, hk⟩ => ⟨he, ⟨_, _, _, _, _, _, sb, SA, hN, hk _ _ _ _ h.blk (by decide) (by decide), h.sz, h.at_, h.dp.tick hd⟩, hb⟩
/-- what is due is taken: its number f, its byte -/
theorem dw_take {g gs k sent p : Nat} {b : Int} {F T Ag : Nat → Int} {S : Nat → Value} {Ln : Nat → Nat} {X : Nat → Nat → Int} {sb : Nat → Bool} {SA : Array Value} {w : World} (h : DW w g gs k sent b F T Ag S Ln X sb SA) (hp : p < k) :
    Calls Try.prog 13 #[.pointer (some ⟨g, 0, none⟩), .int .i64 p] w fun e w' => ∃ (f gv sc : Nat) (t : Int) (B : Array Value) (fr : Nat × Nat), e = .returned (.tuple #[.agg (m3 f t (.slice (some ⟨gv, 0, none⟩) 1 sc)), .int .i64 0]) ∧ f < sent ∧ sb f = false ∧ w'.heap[gv]? = some (.cells B 5 fr) ∧ B[0]? = some (.int .u8 f) ∧
      DW w' g gs (k - 1) sent b (sk F p) (sk T p) (sk Ag p) (sk S p) (sk Ln p) (sk X p) sb SA ∧ DP (k - 1) sent b (sk F p) (sk Ag p) (sk Ln p) (sk X p) (fun x => if x = f then true else sb x) ∧ Below g w w' := by
  obtain ⟨f, m1, m2, m3', m4, m5⟩ := h.dp.m p hp
  refine (take_in g g k F T Ag S Ln X p w h.net hp).mono fun e w' ⟨he, hN, hby, hb, hk⟩ => ?_
  obtain ⟨a, c, h1, h2, h3, h4, h5⟩ := hby
  rw [m4] at h1 h2 h4 h5
  rcases h5 with h5 | ⟨gv, B, fr, h5, h6, h7⟩
  · have := (h4 h5).1; omega
  · subst h5
    have htk := h.dp.take hp m1
    refine ⟨f, gv, c, T p, B, fr, ?_, m2, m3', h6, ?_, ⟨hN, hk _ _ _ _ h.blk (by decide) (by decide), h.sz, h.at_, ?_⟩, htk, hb⟩
    · rw [he, m1, h1]
    · rw [h7 0 (by omega), m5]
    · exact ⟨fun j hj => by
        obtain ⟨f', q1, q2, q3, q4, q5⟩ := htk.m j hj
        refine ⟨f', q1, q2, ?_, q4, q5⟩
        by_cases e : f' = f
        · simp [e] at q3
        · simpa [e] using q3, htk.inj, htk.old, h.dp.new_, htk.ks, htk.s2⟩
/-- the answer's seen mark is set -/
theorem dw_mark {g gs k sent f : Nat} {b : Int} {F T Ag : Nat → Int} {S : Nat → Value} {Ln : Nat → Nat} {X : Nat → Nat → Int} {sb : Nat → Bool} {SA : Array Value} {w : World} (h : DW w g gs k sent b F T Ag S Ln X sb SA)
    (hd : DP k sent b F Ag Ln X (fun x => if x = f then true else sb x)) (hf : f < 200) : Dw (w.setCell ⟨gs, f, none⟩ (.bool true)) g gs k sent b := by
  have hne : ∀ (b' : Nat) (A : Array Value) (t : TypeId) (fr : Nat × Nat), t ≠ 35 → w.heap[b']? = some (Obj.cells A t fr) → b' ≠ gs := fun b' A t fr ht hb e => by
    subst e; rw [h.blk] at hb; injection hb with hb; injection hb with _ hb; exact ht hb.symm
  refine ⟨F, T, Ag, S, Ln, X, _, SA.setIfInBounds f (.bool true), NetIs.other h.net h.blk (fun k' hk' => heap_setCell_other w ⟨gs, f, none⟩ k' _ hk') (by decide) (by decide) (by decide), heap_set h.blk, by simp [h.sz], fun x hx => ?_, hd⟩
  by_cases e : x = f
  · subst e
    rw [Array.getElem?_setIfInBounds_self, if_pos (by rw [h.sz]; exact hx)]
    simp
  · rw [Array.getElem?_setIfInBounds_ne (Ne.symm e), h.at_ x hx]
    simp [e]
set_option maxRecDepth 100000 in
set_option maxHeartbeats 4000000 in
theorem due_walk (a : Option Addr) (n c : Nat) (Z : Nat → Int) (x : Int) (W : World) (_ : ∀ i, F64 (Z i)) (hZ : Ints W a n Z) (hn : n ≤ c) (hc : c ≤ 9223372036854775807) (_ : a = none → n = 0 ∧ c = 0) {px : Prop} (_ : px) :
    Calls Try.prog 4 #[.slice a n c, .int .i64 x] W fun e w' => e = .returned (.bool true) ∧ Below W.heap.size W w' := by
  have HZ := Lib.hid hZ
  clear hZ
  by_cases h60 : 60 < n
  · go_enter Try.func4, Try.ntmps4
    go_wp2_with ((go_at_call 7; (with_reducible refine (known28 _).mono ?_); rintro e w1 ⟨rfl, hb1⟩))
    go_ret
    exact ⟨rfl, hb1⟩
  · obtain ⟨xx, hxx, hx0⟩ : ∃ xx, IntKind.u64.wrap x = xx ∧ 0 ≤ xx := ⟨_, rfl, by show 0 ≤ x % 18446744073709551616; omega⟩
    obtain ⟨y, hy, hy0, hy1⟩ : ∃ y, xx % 20 = y ∧ 0 ≤ y ∧ y ≤ 19 := ⟨_, rfl, by omega, by omega⟩
    obtain ⟨g, hg⟩ : ∃ g, g = W.heap.size := ⟨_, rfl⟩
    have HG := Lib.hid hg
    clear hg
    have HS := Lib.hid (fun (g gs k sent : Nat) (b : Int) (gx : Nat) (fr : Nat × Nat) (w : World) h1 h2 h3 h4 => dw_send (g := g) (gs := gs) (k := k) (sent := sent) (b := b) (gx := gx) (fr := fr) (w := w) h1 h2 h3 h4)
    go_enter Try.func4, Try.ntmps4
    go_wp2_with (first | (go_at_call 8; (with_reducible refine (new_net W).mono ?_); rintro e w1 ⟨rfl, hN1, hb1⟩; rw [← HG.out] at hN1 hb1 ⊢) | ((with_reducible refine at_alloc 35 ?_); refine wpList_alloc_named rfl 35 rfl (z200) (by kernel_rfl) ?_))
    obtain ⟨gs, hgs⟩ : ∃ gs, gs = w1.heap.size := ⟨_, rfl⟩
    have hWgs : W.heap.size ≤ gs := by have := hb1.size; have := HG.out; omega
    have hdw : Dw (w1.alloc (Obj.cells z200 35)) g gs 0 0 (1 + y) := ⟨_, _, _, _, _, _, _, z200, hN1.kept (below_new w1 _), by rw [hgs]; exact heap_alloc_new _ _, z200_size, z200_at, DP.start _⟩
    have hbw := below_alloc (HG.out ▸ hb1) (Obj.cells z200 35)
    rw [← hgs]
    clear hxx hy hgs hN1 hb1
    have HX := Lib.hid (show (0 : Int) ≤ 1 + y by omega)
    go_loopg [7, 9] n (fun gh s i wr => ∃ (i' k sent : Nat), i' ≤ n ∧ gh = n - i' ∧ i = .int .i64 i' ∧ s = .int .i64 sent ∧ Dw wr g gs k sent (1 + y) ∧ Below W.heap.size W wr)
    case atStart => exact ⟨0, 0, 0, by omega, by omega, rfl, rfl, hdw, hbw⟩
    case round =>
      clear hdw hbw
      obtain ⟨i, k0, s0, hi, rfl, rfl, rfl, hdw, hbw⟩ := hrel
      by_cases hlt : i < n
      · obtain ⟨ga, off, A, t, fr, rfl, hga, hAi⟩ := HZ.out i hlt
        have HGA := Lib.hid hga
        clear hga
        generalize Z i = z at *
        obtain ⟨zz, hzz, hz0⟩ : ∃ zz, IntKind.u64.wrap z = zz ∧ 0 ≤ zz := ⟨_, rfl, by show 0 ≤ z % 18446744073709551616; omega⟩
        obtain ⟨q, hq, hq6⟩ : ∃ q : Nat, zz % 6 = q ∧ q ≤ 5 := ⟨(zz % 6).toNat, by omega, by omega⟩
        obtain ⟨wo, rfl⟩ : ∃ wo : World, wo = wr := ⟨_, rfl⟩
        go_wp2_with fail
        go_loopg [7, 10] 6 (fun gh s j wx => ∃ (j' k sent : Nat), j' ≤ q ∧ gh = 6 - j' ∧ j = .int .i64 j' ∧ s = .int .i64 sent ∧ Dw wx g gs k sent (1 + y) ∧ Below W.heap.size W wx)
        case atStart => exact ⟨0, _, _, by omega, by omega, rfl, rfl, hdw, hbw⟩
        case round =>
          clear hdw hbw
          obtain ⟨j, k1, s1, hj, rfl, rfl, rfl, hdw, hbw⟩ := hrel
          have cA := cellF (Ytfgcjgabknoamaa.kept hbw HGA.out)
          by_cases hin : j < q ∧ s1 < 200
          · obtain ⟨hjq, hs⟩ := hin
            have hwu : IntKind.u8.wrap (s1 : Int) = s1 := by show (s1 : Int) % 256 = s1; omega
            have hdw1 := hdw.kept (below_new wr (Obj.cells #[.int .u8 s1] 5))
            have cs := Lib.hid (HS.out g gs k1 s1 (1 + y) wr.heap.size _ _ hdw1 HX.out hs (heap_alloc_new _ _))
            clear hdw1
            go_wp2_with (first
              | ((with_reducible refine at_build 24 ?_); refine wpList_build_named rfl 24 _ rfl (m3 s1 0 (.slice (some ⟨wr.heap.size, 0, none⟩) 1 1)) (by kernel_rfl) ?_) | (go_at_call 9; (with_reducible refine (cs.out).mono ?_); rintro e w2 ⟨rfl, hdw2, hb2⟩))
            go_roundg (6 - (j + 1))
            case measure => omega
            case rel => exact ⟨j + 1, _, s1 + 1, by omega, rfl, by go_num, by go_num, hdw2, (hbw.trans ((below_new wr _).mono hbw.size)).trans (hb2.mono (by have := HG.out; omega))⟩
          · have hk1 : k1 + 0 ≤ 200 := by obtain ⟨F, T, Ag, S, Ln, X, sb, SA, h⟩ := hdw; have := h.dp.ks; have := h.dp.s2; omega
            by_cases hjq : j < q
            all_goals
              try have hs1 : ¬ s1 < 200 := fun h => hin ⟨hjq, h⟩
              clear hin
              obtain ⟨wo2, rfl⟩ : ∃ wo2 : World, wo2 = wr := ⟨_, rfl⟩
              go_wp2_with fail
              clear hq hzz
              go_loopg [11] 201 (fun gh j wx => ∃ (j' k : Nat), k + j' ≤ 200 ∧ gh = 201 - j' ∧ j = .int .i64 j' ∧ Dw wx g gs k s1 (1 + y) ∧ Below W.heap.size W wx)
              case atStart => exact ⟨0, k1, hk1, by omega, rfl, hdw, hbw⟩
              case round =>
                clear hdw hbw cA hk1
                obtain ⟨j2, k2, hjk, rfl, rfl, hdw, hbw⟩ := hrel
                obtain ⟨F, T, Ag, S, Ln, X, sb, SA, hw⟩ := hdw
                have HD := Lib.hid hw
                have hj200 : j2 ≤ 200 := by omega
                by_cases hd : du Ag (1 + y) k2 < 0
                · have cd := Lib.hid (due_is (1 + y) 0 7 hw.net (du_none hd).1 (du_none hd).2)
                  have HDU := Lib.hid hd
                  clear hw hd
                  go_wp2_with (first | (go_at_call 12; (with_reducible refine (cd.out).mono ?_); rintro e w2 ⟨rfl, hb2⟩))
                  have ct := Lib.hid (dw_tick ⟨F, T, Ag, S, Ln, X, sb, SA, ⟨HD.out.net.kept hb2, Ytfgcjgabknoamaa.kept hb2 HD.out.blk, HD.out.sz, HD.out.at_, HD.out.dp⟩, HDU.out⟩)
                  have hbw2 := below_then hbw hb2
                  have hk200 : k2 ≤ 200 := by omega
                  clear cd HDU HD hbw hb2
                  go_wp2_with (first | (go_at_call 14; (with_reducible refine (ct.out).mono ?_); rintro e w3 ⟨rfl, hdw3, hb3⟩))
                  have hbw3 := hbw2.trans (hb3.mono (show W.heap.size ≤ g by have := HG.out; omega))
                  clear ct hbw2 hb3
                  go_loopg [16] 201 (fun gh j wx => ∃ (j' : Nat), j' ≤ k2 ∧ gh = 201 - j' ∧ j = .int .i64 j' ∧ Dw wx g gs k2 s1 (1 + y) ∧ Below W.heap.size W wx)
                  case atStart => exact ⟨0, by omega, by omega, rfl, hdw3, hbw3⟩
                  case round =>
                    clear hdw3 hbw3
                    obtain ⟨j4, hj4, rfl, rfl, hdw4, hbw4⟩ := hrel
                    have HD4 := Lib.hid hdw4
                    obtain ⟨F4, T4, Ag4, S4, Ln4, X4, sb4, SA4, hw4⟩ := hdw4
                    have cl := Lib.hid (nlen_any _ _ _ _ _ _ _ _ _ _ hw4.net)
                    by_cases hl4 : j4 < k2
                    · have cm := Lib.hid (mail_is j4 j4 (F4 j4) (T4 j4) (Ag4 j4) hw4.net rfl hl4 rfl rfl rfl)
                      have ho := hw4.dp.old j4 hl4
                      have ho2 : ¬ (1 + y < Ag4 j4) := by omega
                      have h200 : j4 < 200 := by omega
                      clear hw4 ho
                      generalize Ag4 j4 = ag at *
                      generalize F4 j4 = ff at *
                      generalize T4 j4 = tt at *
                      go_wp2_with (first | (go_at_call 11; (with_reducible refine (cl.out).mono ?_); rintro e w4 ⟨rfl, rfl⟩) | (go_at_call 15; (with_reducible refine (cm.out).mono ?_); rintro e w5 ⟨v', rfl, ⟨sv, cv, hsv, _⟩, hb5⟩; have HM := Lib.hid (show (m3 ff tt v').size = 3 from rfl); have HA := Lib.hid (show (m3 ff tt v').all (·.oneCell') = true from hsv ▸ m3_all); clear hsv; generalize m3 ff tt v' = M at *) | ((with_reducible refine at_alloc 24 ?_); refine wpList_alloc_named rfl 24 rfl mz (by kernel_rfl) ?_) | ((with_reducible refine at_store 24 ?_); refine wpList_store_over rfl 24 _ _ rfl (w5.heap.size) (M) rfl rfl _ _ (heap_alloc_new _ _) (by rw [HM.out]; kernel_rfl) (by rw [HM.out]; rfl) (HA.out) ?_; intro w6 hg6 hs6 ho6 hb6))
                      have hbn := hb5.trans ((below_new w5 (Obj.cells mz 24)).mono hb5.size |>.trans (hb6 _ hb5.size))
                      go_roundg (201 - (j4 + 1))
                      case measure => omega
                      case rel => exact ⟨j4 + 1, by omega, rfl, by go_num, HD4.out.kept hbn, below_then hbw4 hbn⟩
                    · obtain rfl : j4 = k2 := by omega
                      clear hw4
                      go_wp2_with (first | (go_at_call 11; (with_reducible refine (cl.out).mono ?_); rintro e w4 ⟨rfl, rfl⟩))
                      go_roundg (n - (i + 1))
                      case measure => omega
                      case rel => exact ⟨i + 1, _, s1, by omega, rfl, by go_num, rfl, HD4.out, hbw4⟩
                · obtain ⟨p, hp, hpk⟩ := du_at k2 (show 0 ≤ du Ag (1 + y) k2 by omega)
                  have cd := Lib.hid (due_is (1 + y) p 0 hw.net (du_some hp).1 (du_some hp).2)
                  clear hw hd hp
                  go_wp2_with (first | (go_at_call 12; (with_reducible refine (cd.out).mono ?_); rintro e w2 ⟨rfl, hb2⟩))
                  have ct := Lib.hid (dw_take (p := p) ⟨HD.out.net.kept hb2, Ytfgcjgabknoamaa.kept hb2 HD.out.blk, HD.out.sz, HD.out.at_, HD.out.dp⟩ hpk)
                  have hbw2 := below_then hbw hb2
                  have hs200 := HD.out.dp.s2
                  clear cd HD hbw hb2
                  go_at_call 13
                  refine ct.out.mono ?_
                  rintro e w3 ⟨f, gv, sc, t, B, fr, rfl, hf, hsf, hgv, hB0, hw3, hdp3, hb3⟩
                  have hbw3 := hbw2.trans (hb3.mono (show W.heap.size ≤ g by have := HG.out; omega))
                  have HM := Lib.hid (show (m3 f t (.slice (some ⟨gv, 0, none⟩) 1 sc)).size = 3 from rfl)
                  have HA := Lib.hid (m3_all (f := f) (t := t) (a := some ⟨gv, 0, none⟩) (n := 1) (c := sc))
                  have hM0 : (m3 f t (.slice (some ⟨gv, 0, none⟩) 1 sc))[0]? = some (.int .i64 f) := rfl
                  have hM2 : (m3 f t (.slice (some ⟨gv, 0, none⟩) 1 sc))[2]? = some (.slice (some ⟨gv, 0, none⟩) 1 sc) := rfl
                  have hSf : SA[f]? = some (.bool false) := by rw [hw3.at_ f (by omega), hsf]
                  have HW3 := Lib.hid hw3
                  have HDP := Lib.hid hdp3
                  have hgs3 := hw3.blk
                  clear ct hbw2 hb3 hw3 hdp3 hsf
                  generalize m3 f t (.slice (some ⟨gv, 0, none⟩) 1 sc) = M at *
                  go_wp2_with (first | ((with_reducible refine at_alloc 24 ?_); refine wpList_alloc_named rfl 24 rfl mz (by kernel_rfl) ?_) | ((with_reducible refine at_store 24 ?_); refine wpList_store_over rfl 24 _ _ rfl (w3.heap.size) (M) rfl rfl _ _ (heap_alloc_new _ _) (by rw [HM.out]; kernel_rfl) (by rw [HM.out]; rfl) (HA.out) ?_; intro w4 hg4 hs4 ho4 hb4))
                  have hgs4 : w4.heap[gs]? = some (.cells SA 35 (0, 0)) := (ho4 gs (by have := (Array.getElem?_eq_some_iff.1 hgs3).1; omega)).trans (heap_up hgs3)
                  have hgv4 : w4.heap[gv]? = some (.cells B 5 fr) := (ho4 gv (by have := (Array.getElem?_eq_some_iff.1 hgv).1; omega)).trans (heap_up hgv)
                  have hb34 := ((below_new w3 (Obj.cells mz 24))).trans (hb4 _ (Nat.le_refl _))
                  have HW4 := Lib.hid (show DW w4 g gs (k2 - 1) s1 (1 + y) _ _ _ _ _ _ _ _ from ⟨HW3.out.net.kept hb34, hgs4, HW3.out.sz, HW3.out.at_, HW3.out.dp⟩)
                  have hbw4 := below_then hbw3 hb34
                  have cM := cellF hg4
                  have cS := cellF hgs4
                  have cB := cellF hgv4
                  have fS := (cells_of hgs4).2.1
                  have hwu : IntKind.u8.wrap (f : Int) = f := by show (f : Int) % 256 = f; omega
                  have hf0 : (0 : Int) ≤ f := by omega
                  have hf1 : (f : Int) < 200 := by omega
                  have hf2 : (f : Int) < s1 := by omega
                  clear hgs3 hgv hb34 hbw3 hb4 ho4 hg4 hs4 hgs4 hgv4 HW3
                  go_quiet (fail)
                  have hbd : Below w4.heap.size w4 (w4.drewN nq) := below_drawn (Below.refl _ _)
                  have hMK := Lib.hid (dw_mark (f := f) (show DW (w4.drewN nq) g gs (k2 - 1) s1 (1 + y) _ _ _ _ _ _ _ _ from ⟨HW4.out.net.kept hbd, Ytfgcjgabknoamaa.kept hbd HW4.out.blk, HW4.out.sz, HW4.out.at_, HW4.out.dp⟩) HDP.out (by omega))
                  have hbM := Lib.hid (below_set (i := f) (v := .bool true) (below_then hbw4 hbd) (show W.heap.size ≤ gs by omega))
                  clear hbd hbw4
                  go_wp2_with fail
                  go_roundg (201 - (j2 + 1))
                  case measure => omega
                  case rel => exact ⟨j2 + 1, k2 - 1, by omega, rfl, by go_num, hMK.out, hbM.out⟩
      · go_wp2_with ((go_at_call 7; (with_reducible refine (known28 _).mono ?_); rintro e w1 ⟨rfl, hb1⟩))
        go_ret
        exact ⟨rfl, below_then hbw hb1⟩
end Go.Proofs.Ytfgcjgabknoamaa
