/- slices' insertionSortCmpFunc at orders. Condition: cmp answers by a key, in every world where the row alone is another. -/
import Derived.Test.YtoglcgijgckdaaaOSrtA
namespace Go.Proofs.Ytoglcgijgckdaaa
set_option linter.unusedVariables false
set_option linter.unusedSimpArgs false
open Go.RowKit

/-- called with two of the row's numbers, the function value hands back cf of them, and leaves old memory alone -/
def CmpAt (L : Nat → Array Value) (w0 : World) (blk n : Nat) (cf : Nat → Nat → Int) (cb : Value) : Prop := ∀ W, w0.grownBy W (some blk) → ∀ x y, x < n → y < n →
  Calls Try.prog 14 #[.agg (L x), .agg (L y), cb] W fun e w' => e = .returned (.int .i64 (cf x y)) ∧ Below W.heap.size W w'
theorem at_qcallv {P : Program} {ops : Array Oper} {C : World → Prop} {Q : Act → Prop} {rest : List Oper} {a : Act} {k : Tmp} {d : Option Tmp} {ags : Array Operand} {ts : Array TypeId} {ty : TypeId} {pos : String} {af : Array Edge} {gd : Option (Nat × Bool)}
    (h : WQ P ops C Q (⟨d, .call { callee := .value (.tmp k), args := ags, argTypes := ts }, ty, pos, af, gd⟩ :: rest) a) : WQ P ops C Q (⟨d, .call { callee := .value (.tmp k), args := ags, argTypes := ts }, ty, pos, af, gd⟩ :: rest) a := h
theorem CmpAt.q {L : Nat → Array Value} {w0 wr : World} {blk n : Nat} {cf : Nat → Nat → Int} {cb : Value} {d : Nat → Nat} (h : CmpAt L w0 blk n cf cb) (hR : RowJ L w0 wr blk n d) (x y : Nat) (hx : x < n) (hy : y < n) :
    ∀ w, Below wr.heap.size wr w → Calls Try.prog 14 #[.agg (L x), .agg (L y), cb] w fun e w'' => e = .returned (.int .i64 (cf x y)) ∧ Below wr.heap.size wr w'' := fun w hb =>
  (h w (hR.below hb).fr x y hx hy).mono fun _ _ ⟨h1, h2⟩ => ⟨h1, below_then hb h2⟩
/-- the function value -/
def fvS (cb : Value) : Value := .func (.func 14) #[] #[cb]

theorem ins_end {K : Nat → Int} {a i j : Nat} {d : Nat → Nat} (hS : Srt K a i d) (h1 : a ≤ j) (h2 : j ≤ i) (hl : j = a ∨ ltK K (d (j - 1)) (d i)) (hr : ∀ k, j ≤ k → k < i → ltK K (d i) (d k)) :
    PermOn a (i + 1) d (rot j i (i + 1) d) ∧ Srt K a (i + 1) (rot j i (i + 1) d) := by
  refine ⟨(rot_perm d h2 (by omega)).mono h1 (Nat.le_refl _), merge_hi hS h1 h2 (fun k hk hk2 => ?_) hr⟩
  rcases hl with rfl | hl
  · omega
  · by_cases e : k = j - 1
    · subst e; exact hl
    · exact ltK_trans (hS k (j - 1) hk (by omega) (by omega)) hl

set_option maxRecDepth 100000 in
set_option maxHeartbeats 4000000 in
theorem insort_any (L : Nat → Array Value) (blk n cap a b : Nat) (d : Nat → Nat) (K : Nat → Int) (cf : Nat → Nat → Int) (cb : Value) (w0 w : World) (hcf : ∀ x y, cf x y < 0 ↔ K x < K y) (hC : CmpAt L w0 blk n cf cb) (hR : RowJ L w0 w blk n d) (hab : a ≤ b) (hb : b ≤ n) (hd : ∀ k, a ≤ k → k < b → d k = k) :
    Calls Try.prog 20 #[.slice (some ⟨blk, 0, none⟩) n cap, .int .i64 a, .int .i64 b, fvS cb] w fun e w' => e = .returned (.tuple #[]) ∧ ∃ d', RowJ L w0 w' blk n d' ∧ PermOn a b d d' ∧ Srt K a b d' := by
  have hsz := hR.sz
  have H0 := Lib.hid hR
  have HC := Lib.hid hC
  have HD := Lib.hid hd
  have HCF := Lib.hid hcf
  clear hR hC hd hcf
  unfold fvS
  go_enter Try.func20, Try.ntmps20
  go_wp2
  go_loopg [8] (b - (a + 1)) (fun gh vi wr => ∃ (i : Nat) (di : Nat → Nat), vi = .int .i64 i ∧ a + 1 ≤ i ∧ gh = b - i ∧ (i ≤ b ∨ i = a + 1) ∧ PermOn a (min i b) d di ∧ Srt K a (min i b) di ∧ RowJ L w0 wr blk n di)
  case atStart => exact ⟨a + 1, d, by go_num, by omega, rfl, by omega, .refl _ _ _, fun x y hx hxy hy => by omega, H0.out⟩
  case round =>
    obtain ⟨i, di, rfl, hai, rfl, hib, hp, hs, hRi⟩ := hrel
    by_cases hlt : i < b
    · rw [Nat.min_eq_left (by omega)] at hp hs
      have hdi : di i = i := by rw [hp.out (by omega)]; exact HD.out i (by omega) hlt
      have HLT := Lib.hid (show ∀ k, a ≤ k → k < i → di k < di i from by
        rw [hdi]
        exact hp.all (p := fun x => x < i) (fun k h1 h2 => by rw [HD.out k h1 (by omega)]; exact h2))
      have HP := Lib.hid hp
      have HS := Lib.hid hs
      have HR := Lib.hid hRi
      clear hp hs hRi hdi H0
      have hin : i < n := by omega
      go_wp2
      go_loopg [9] (i - a) (fun g2 vj wr2 => ∃ j : Nat, vj = .int .i64 j ∧ a ≤ j ∧ j ≤ i ∧ g2 = j - a ∧ (∀ k, j ≤ k → k < i → ltK K (di i) (di k)) ∧ RowJ L w0 wr2 blk n (rot j i (i + 1) di))
      case atStart => exact ⟨i, rfl, by omega, Nat.le_refl _, rfl, fun k h1 h2 => by omega, HR.out.congr (rot_left i (i + 1) di).symm⟩
      case round =>
        obtain ⟨j, rfl, haj, hji, rfl, hr, hRj⟩ := hrel
        have HRR := Lib.hid hr
        have HRJ := Lib.hid hRj
        clear hr hRj HR
        have OUT := Lib.hid (fun (wx : World) (hx : RowJ L w0 wx blk n (rot j i (i + 1) di)) (hl : j = a ∨ ltK K (di (j - 1)) (di i)) => show ∃ di', RowJ L w0 wx blk n di' ∧ PermOn a (min (i + 1) b) d di' ∧ Srt K a (min (i + 1) b) di' from by
          rw [Nat.min_eq_left (by omega)]
          obtain ⟨e1, e2⟩ := ins_end HS.out haj hji hl HRR.out
          exact ⟨_, hx, (HP.out.mono (Nat.le_refl _) (by omega)).trans e1, e2⟩)
        by_cases hja : a < j
        · obtain ⟨q, hq⟩ : ∃ q, q = j - 1 := ⟨_, rfl⟩
          have zq := wrapN (z := (j : Int) - 1) (n := q) (by omega) (by omega)
          have hjn : (j : Int) < (n : Int) := by omega
          have hqn : (q : Int) < (n : Int) := by omega
          obtain ⟨dj, hdj⟩ : ∃ dj, dj = rot j i (i + 1) di := ⟨_, rfl⟩
          obtain ⟨x, hx⟩ : ∃ x, x = dj j := ⟨_, rfl⟩
          obtain ⟨y, hy⟩ : ∃ y, y = dj q := ⟨_, rfl⟩
          have exi : x = di i := by
            rw [hx, hdj]; unfold rot; repeat' split
            all_goals first | rfl | (exfalso; omega) | (congr 1; omega)
          have eyi : y = di (j - 1) := by
            rw [hy, hdj, hq]; unfold rot; repeat' split
            all_goals first | rfl | (exfalso; omega) | (congr 1; omega)
          have HRD := Lib.hid (hdj ▸ HRJ.out : RowJ L w0 wr blk n dj)
          obtain ⟨A5, hgA5, hXA5⟩ := HRD.out.row
          have HX := Lib.hid (show j * 5 + 5 ≤ A5.size ∧ A5.extract (j * 5) (j * 5 + 5) = L x from by rw [hx]; exact hXA5 j (by omega))
          have HY := Lib.hid (show q * 5 + 5 ≤ A5.size ∧ A5.extract (q * 5) (q * 5 + 5) = L y from by rw [hy]; exact hXA5 q (by omega))
          clear hXA5
          have HCQ := Lib.hid (HC.out.q HRD.out x y (by rw [hx]; exact HRD.out.lt _ (by omega)) (by rw [hy]; exact HRD.out.lt _ (by omega)))
          have hlt' : y < x := by rw [exi, eyi]; exact HLT.out _ (by omega) (by omega)
          have HDJ := Lib.hid hdj
          have HXY := Lib.hid (show x = dj j ∧ y = dj q ∧ x = di i ∧ y = di (j - 1) ∧ q = j - 1 ∧ y < x from ⟨hx, hy, exi, eyi, hq, hlt'⟩)
          clear hdj hx hy exi eyi hq hlt'
          by_cases hk : cf x y < 0
          · go_wp2
            refine wp_region_below (by kernel_rfl) (by kernel_rfl) ?_
            repeat (first | ((with_reducible apply q_skip); (case hw => rfl); (try simp only [Act.put, List.setIfInBounds_toArray, List.set_cons_zero, List.set_cons_succ])) | ((with_reducible refine at_qload 31 ?_); refine q_load_part (by rfl) 31 _ rfl (blk) (j * 5) rfl _ (A5) _ 5 (hgA5) Try.underlying31 rfl (by kernel_rfl) (HX.out.1) (L x) (HX.out.2) ?_; try simp only [Act.put, List.setIfInBounds_toArray, List.set_cons_zero, List.set_cons_succ]) | ((with_reducible refine at_qload 31 ?_); refine q_load_part (by rfl) 31 _ rfl (blk) (q * 5) rfl _ (A5) _ 5 (hgA5) Try.underlying31 rfl (by kernel_rfl) (HY.out.1) (L y) (HY.out.2) ?_; try simp only [Act.put, List.setIfInBounds_toArray, List.set_cons_zero, List.set_cons_succ]) | ((with_reducible refine at_qcallv ?_); refine q_call (.int .i64 (cf x y)) 14 #[.agg (L x), .agg (L y), cb] (by rfl) (fun wq hq => by go_simp) HCQ.out ?_; (try simp only [Act.put, List.setIfInBounds_toArray, List.set_cons_zero, List.set_cons_succ])) | ((with_reducible apply q_val); (case hw => rfl); (case hv => intro wq hbq; go_simp; try rfl); (try simp only [Act.put, List.setIfInBounds_toArray, List.set_cons_zero, List.set_cons_succ])))
            refine q_nil ?_
            intro w4 hb4
            have HRD0 := HRD.out.below hb4
            clear HRD
            have HRD := Lib.hid HRD0
            have HPQ := Lib.hid (show j < n ∧ q < n by omega)
            clear HRD0 HX HY HCQ hgA5
            go_wp2
            obtain ⟨wy, hwy⟩ : ∃ wy, wy = w4 := ⟨_, rfl⟩
            rw [← hwy] at HRD ⊢
            clear hwy hb4
            refine wp_region_any (by kernel_rfl) ?_
            change wpAny _ _ _ _ _ _ _ (World.drew _)
            obtain ⟨wq, hwq⟩ : ∃ wq, wq = World.drew wy := ⟨_, rfl⟩
            have HRW := Lib.hid (show RowJ L w0 wq blk n dj from by rw [hwq]; exact HRD.out.drew)
            rw [← hwq]
            clear hwq
            obtain ⟨A, hgA, hXA⟩ := HRW.out.row
            have HP5 := Lib.hid (hXA j HPQ.out.1)
            have HQ5 := Lib.hid (hXA q HPQ.out.2)
            have HXA := Lib.hid hXA
            clear hXA
            (refine wpAny_take (i := 0) (v := ?_) rfl (by kernel_rfl) (by kernel_rfl) (by kernel_rfl) (fun _ _ _ h => h) (Or.inl ⟨by rfl, ?wt_0⟩) ?_); (case wt_0 => (intro wt; go_simp; try with_reducible rfl)); (try simp only [Act.put, List.getElem_toArray, List.getElem_cons_zero, List.getElem_cons_succ, List.setIfInBounds_toArray, List.set_cons_zero, List.set_cons_succ]); (refine wpAny_take (i := 1) (v := ?_) rfl (by kernel_rfl) (by kernel_rfl) (by kernel_rfl) (fun _ _ _ h => h) (Or.inl ⟨by rfl, ?wt_1⟩) ?_); (case wt_1 => (intro wt; go_simp; try with_reducible rfl)); (try simp only [Act.put, List.getElem_toArray, List.getElem_cons_zero, List.getElem_cons_succ, List.setIfInBounds_toArray, List.set_cons_zero, List.set_cons_succ]); (refine wpAny_take (i := 2) (v := ?_) rfl (by kernel_rfl) (by kernel_rfl) (by kernel_rfl) (fun _ _ _ h => h) (Or.inl ⟨by rfl, ?wt_2⟩) ?_); (case wt_2 => (intro wt; go_simp; try with_reducible rfl)); (try simp only [Act.put, List.getElem_toArray, List.getElem_cons_zero, List.getElem_cons_succ, List.setIfInBounds_toArray, List.set_cons_zero, List.set_cons_succ]); (refine wpAny_take (i := 3) (v := ?_) rfl (by kernel_rfl) (by kernel_rfl) (by kernel_rfl) (fun _ _ _ h => h) (Or.inl ⟨by rfl, ?wt_3⟩) ?_); (case wt_3 => (intro wt; go_simp; try with_reducible rfl)); (try simp only [Act.put, List.getElem_toArray, List.getElem_cons_zero, List.getElem_cons_succ, List.setIfInBounds_toArray, List.set_cons_zero, List.set_cons_succ]); (refine wpAny_take (i := 4) (v := ?_) rfl (by kernel_rfl) (by kernel_rfl) (by kernel_rfl) (fun _ _ _ h => h) (Or.inl ⟨by rfl, ?wt_4⟩) ?_); (case wt_4 => (intro wt; go_simp; try with_reducible rfl)); (try simp only [Act.put, List.getElem_toArray, List.getElem_cons_zero, List.getElem_cons_succ, List.setIfInBounds_toArray, List.set_cons_zero, List.set_cons_succ]); (refine wpAny_take (i := 5) (v := ?_) rfl (by kernel_rfl) (by kernel_rfl) (by kernel_rfl) (fun _ _ _ h => h) (Or.inl ⟨by rfl, ?wt_5⟩) ?_); (case wt_5 => (intro wt; go_simp; try with_reducible rfl)); (try simp only [Act.put, List.getElem_toArray, List.getElem_cons_zero, List.getElem_cons_succ, List.setIfInBounds_toArray, List.set_cons_zero, List.set_cons_succ]); (refine wpAny_take (i := 6) (v := ?_) rfl (by kernel_rfl) (by kernel_rfl) (by kernel_rfl) (fun _ _ _ h => h) (Or.inl ⟨by rfl, ?wt_6⟩) ?_); (case wt_6 => (intro wt; go_simp; try with_reducible rfl)); (try simp only [Act.put, List.getElem_toArray, List.getElem_cons_zero, List.getElem_cons_succ, List.setIfInBounds_toArray, List.set_cons_zero, List.set_cons_succ]); (refine wpAny_take (i := 7) (v := ?_) rfl (by kernel_rfl) (by kernel_rfl) (by kernel_rfl) (fun _ _ _ h => h) (Or.inl ⟨by rfl, ?wt_7⟩) ?_); (case wt_7 => (intro wt; go_simp; try with_reducible rfl)); (try simp only [Act.put, List.getElem_toArray, List.getElem_cons_zero, List.getElem_cons_succ, List.setIfInBounds_toArray, List.set_cons_zero, List.set_cons_succ]); (refine wpAny_take (i := 8) (v := ?_) rfl (by kernel_rfl) (by kernel_rfl) (by kernel_rfl) (fun _ _ _ h => h) (Or.inl ⟨by rfl, ?wt_8⟩) ?_); (case wt_8 => (intro wt; go_simp; try with_reducible rfl)); (try simp only [Act.put, List.getElem_toArray, List.getElem_cons_zero, List.getElem_cons_succ, List.setIfInBounds_toArray, List.set_cons_zero, List.set_cons_succ]); (refine wpAny_take (i := 10) (v := ?_) rfl (by kernel_rfl) (by kernel_rfl) (by kernel_rfl) (fun _ _ _ h => h) (Or.inl ⟨by rfl, ?wt_10⟩) ?_); (case wt_10 => (intro wt; go_simp; try with_reducible rfl)); (try simp only [Act.put, List.getElem_toArray, List.getElem_cons_zero, List.getElem_cons_succ, List.setIfInBounds_toArray, List.set_cons_zero, List.set_cons_succ]); (refine wpAny_take (i := 11) (v := ?_) rfl (by kernel_rfl) (by kernel_rfl) (by kernel_rfl) (fun _ _ _ h => h) (Or.inl ⟨by rfl, ?wt_11⟩) ?_); (case wt_11 => (intro wt; go_simp; try with_reducible rfl)); (try simp only [Act.put, List.getElem_toArray, List.getElem_cons_zero, List.getElem_cons_succ, List.setIfInBounds_toArray, List.set_cons_zero, List.set_cons_succ]); (refine wpAny_take (i := 12) (v := ?_) rfl (by kernel_rfl) (by kernel_rfl) (by kernel_rfl) (fun _ _ _ h => h) (Or.inl ⟨by rfl, ?wt_12⟩) ?_); (case wt_12 => (intro wt; go_simp; try with_reducible rfl)); (try simp only [Act.put, List.getElem_toArray, List.getElem_cons_zero, List.getElem_cons_succ, List.setIfInBounds_toArray, List.set_cons_zero, List.set_cons_succ])
            refine wpAny_ready (rs := [9, 13]) (by kernel_rfl) (by decide) ?_
            refine AllReady.cons rfl (fun K' hK => ?_) (AllReady.cons rfl (fun K' hK => ?_) AllReady.nil)
            · rw [if_pos (by rfl)]
              refine op_load_part' 31 _ rfl blk (q * 5) (by rfl) _ A _ _ 5 hgA Try.underlying31 rfl (by kernel_rfl) HQ5.out.1 (L (dj q)) HQ5.out.2 (hK _ _ ?_)
              clear hK K'
              (try simp only [Act.put, List.getElem_toArray, List.getElem_cons_zero, List.getElem_cons_succ, List.setIfInBounds_toArray, List.set_cons_zero, List.set_cons_succ])
              refine wpAny_ready (rs := [13]) (by kernel_rfl) (by decide) ?_
              refine AllReady.cons rfl (fun K' hK => ?_) AllReady.nil
              rw [if_pos (by rfl)]
              refine op_load_part' 31 _ rfl blk (j * 5) (by rfl) _ A _ _ 5 hgA Try.underlying31 rfl (by kernel_rfl) HP5.out.1 (L (dj j)) HP5.out.2 (hK _ _ ?_)
              clear hK K'
              (try simp only [Act.put, List.getElem_toArray, List.getElem_cons_zero, List.getElem_cons_succ, List.setIfInBounds_toArray, List.set_cons_zero, List.set_cons_succ])
              (refine wpAny_take (i := 14) (v := ?_) rfl (by kernel_rfl) (by kernel_rfl) (by kernel_rfl) (fun _ _ _ h => h) (Or.inl ⟨by rfl, ?wt_14⟩) ?_); (case wt_14 => (intro wt; go_simp; try with_reducible rfl)); (try simp only [Act.put, List.getElem_toArray, List.getElem_cons_zero, List.getElem_cons_succ, List.setIfInBounds_toArray, List.set_cons_zero, List.set_cons_succ])
              refine wpAny_ready (rs := [15]) (by kernel_rfl) (by decide) ?_
              refine AllReady.cons rfl (fun K' hK => ?_) AllReady.nil
              rw [if_pos (by rfl)]
              refine op_store_part' 31 _ _ rfl blk (j * 5) (L (dj q)) (by rfl) (by rfl) _ A hgA (by rw [(HRW.out.ord _).size]; kernel_rfl) (by rw [(HRW.out.ord _).size]; exact HP5.out.1) (HRW.out.ord _).all ?_
              intro ws1 hs1 hos1 hbs1
              refine hK _ _ ?_
              clear hK K'
              (try simp only [Act.put, List.getElem_toArray, List.getElem_cons_zero, List.getElem_cons_succ, List.setIfInBounds_toArray, List.set_cons_zero, List.set_cons_succ])
              (refine wpAny_take (i := 16) (v := ?_) rfl (by kernel_rfl) (by kernel_rfl) (by kernel_rfl) (fun _ _ _ h => h) (Or.inl ⟨by rfl, ?wt_16⟩) ?_); (case wt_16 => (intro wt; go_simp; try with_reducible rfl)); (try simp only [Act.put, List.getElem_toArray, List.getElem_cons_zero, List.getElem_cons_succ, List.setIfInBounds_toArray, List.set_cons_zero, List.set_cons_succ])
              refine wpAny_ready (rs := [17]) (by kernel_rfl) (by decide) ?_
              refine AllReady.cons rfl (fun K' hK => ?_) AllReady.nil
              rw [if_pos (by rfl)]
              refine op_store_part' 31 _ _ rfl blk (q * 5) (L (dj j)) (by rfl) (by rfl) _ _ hs1 (by rw [(HRW.out.ord _).size]; kernel_rfl) (by rw [(HRW.out.ord _).size]; exact (splice_rows (HRW.out.ord (dj q)).size HPQ.out.1 HXA.out q HPQ.out.2).1) (HRW.out.ord _).all ?_
              intro ws2 hs2 hos2 hbs2
              have HSW := Lib.hid (HRW.out.swap HPQ.out.1 HPQ.out.2 HXA.out (hbs1 _ (Nat.le_refl _)) hos1 (hbs2 _ (Nat.le_refl _)) hos2 hs2)
              refine hK _ _ ?_
              clear hK K' hs1 hos1 hbs1 hs2 hos2 hbs2 hgA
              refine wpAny_done (by kernel_rfl) ?_ _
              (try simp only [Act.put, List.getElem_toArray, List.getElem_cons_zero, List.getElem_cons_succ, List.setIfInBounds_toArray, List.set_cons_zero, List.set_cons_succ])
              go_wp2
              go_roundg (j - 1 - a)
              case measure => omega
              case rel =>
                obtain ⟨x1, x2, x3, x4, x5, x6⟩ := HXY.out
                subst x5
                refine ⟨j - 1, by go_num, by omega, by omega, rfl, fun k h1 h2 => ?_, (HSW.out.congr ?_)⟩
                · by_cases e : k = j - 1
                  · subst e; rw [← x3, ← x4]; exact .inl ((HCF.out _ _).1 hk)
                  · exact HRR.out k (by omega) h2
                · rw [HDJ.out]; exact rot_down di (by omega) hji
            · rw [if_pos (by rfl)]
              refine op_load_part' 31 _ rfl blk (j * 5) (by rfl) _ A _ _ 5 hgA Try.underlying31 rfl (by kernel_rfl) HP5.out.1 (L (dj j)) HP5.out.2 (hK _ _ ?_)
              clear hK K'
              (try simp only [Act.put, List.getElem_toArray, List.getElem_cons_zero, List.getElem_cons_succ, List.setIfInBounds_toArray, List.set_cons_zero, List.set_cons_succ])
              refine wpAny_ready (rs := [9]) (by kernel_rfl) (by decide) ?_
              refine AllReady.cons rfl (fun K' hK => ?_) AllReady.nil
              rw [if_pos (by rfl)]
              refine op_load_part' 31 _ rfl blk (q * 5) (by rfl) _ A _ _ 5 hgA Try.underlying31 rfl (by kernel_rfl) HQ5.out.1 (L (dj q)) HQ5.out.2 (hK _ _ ?_)
              clear hK K'
              (try simp only [Act.put, List.getElem_toArray, List.getElem_cons_zero, List.getElem_cons_succ, List.setIfInBounds_toArray, List.set_cons_zero, List.set_cons_succ])
              (refine wpAny_take (i := 14) (v := ?_) rfl (by kernel_rfl) (by kernel_rfl) (by kernel_rfl) (fun _ _ _ h => h) (Or.inl ⟨by rfl, ?wt_14⟩) ?_); (case wt_14 => (intro wt; go_simp; try with_reducible rfl)); (try simp only [Act.put, List.getElem_toArray, List.getElem_cons_zero, List.getElem_cons_succ, List.setIfInBounds_toArray, List.set_cons_zero, List.set_cons_succ])
              refine wpAny_ready (rs := [15]) (by kernel_rfl) (by decide) ?_
              refine AllReady.cons rfl (fun K' hK => ?_) AllReady.nil
              rw [if_pos (by rfl)]
              refine op_store_part' 31 _ _ rfl blk (j * 5) (L (dj q)) (by rfl) (by rfl) _ A hgA (by rw [(HRW.out.ord _).size]; kernel_rfl) (by rw [(HRW.out.ord _).size]; exact HP5.out.1) (HRW.out.ord _).all ?_
              intro ws1 hs1 hos1 hbs1
              refine hK _ _ ?_
              clear hK K'
              (try simp only [Act.put, List.getElem_toArray, List.getElem_cons_zero, List.getElem_cons_succ, List.setIfInBounds_toArray, List.set_cons_zero, List.set_cons_succ])
              (refine wpAny_take (i := 16) (v := ?_) rfl (by kernel_rfl) (by kernel_rfl) (by kernel_rfl) (fun _ _ _ h => h) (Or.inl ⟨by rfl, ?wt_16⟩) ?_); (case wt_16 => (intro wt; go_simp; try with_reducible rfl)); (try simp only [Act.put, List.getElem_toArray, List.getElem_cons_zero, List.getElem_cons_succ, List.setIfInBounds_toArray, List.set_cons_zero, List.set_cons_succ])
              refine wpAny_ready (rs := [17]) (by kernel_rfl) (by decide) ?_
              refine AllReady.cons rfl (fun K' hK => ?_) AllReady.nil
              rw [if_pos (by rfl)]
              refine op_store_part' 31 _ _ rfl blk (q * 5) (L (dj j)) (by rfl) (by rfl) _ _ hs1 (by rw [(HRW.out.ord _).size]; kernel_rfl) (by rw [(HRW.out.ord _).size]; exact (splice_rows (HRW.out.ord (dj q)).size HPQ.out.1 HXA.out q HPQ.out.2).1) (HRW.out.ord _).all ?_
              intro ws2 hs2 hos2 hbs2
              have HSW := Lib.hid (HRW.out.swap HPQ.out.1 HPQ.out.2 HXA.out (hbs1 _ (Nat.le_refl _)) hos1 (hbs2 _ (Nat.le_refl _)) hos2 hs2)
              refine hK _ _ ?_
              clear hK K' hs1 hos1 hbs1 hs2 hos2 hbs2 hgA
              refine wpAny_done (by kernel_rfl) ?_ _
              (try simp only [Act.put, List.getElem_toArray, List.getElem_cons_zero, List.getElem_cons_succ, List.setIfInBounds_toArray, List.set_cons_zero, List.set_cons_succ])
              go_wp2
              go_roundg (j - 1 - a)
              case measure => omega
              case rel =>
                obtain ⟨x1, x2, x3, x4, x5, x6⟩ := HXY.out
                subst x5
                refine ⟨j - 1, by go_num, by omega, by omega, rfl, fun k h1 h2 => ?_, (HSW.out.congr ?_)⟩
                · by_cases e : k = j - 1
                  · subst e; rw [← x3, ← x4]; exact .inl ((HCF.out _ _).1 hk)
                  · exact HRR.out k (by omega) h2
                · rw [HDJ.out]; exact rot_down di (by omega) hji
          · go_wp2
            refine wp_region_below (by kernel_rfl) (by kernel_rfl) ?_
            repeat (first | ((with_reducible apply q_skip); (case hw => rfl); (try simp only [Act.put, List.setIfInBounds_toArray, List.set_cons_zero, List.set_cons_succ])) | ((with_reducible refine at_qload 31 ?_); refine q_load_part (by rfl) 31 _ rfl (blk) (j * 5) rfl _ (A5) _ 5 (hgA5) Try.underlying31 rfl (by kernel_rfl) (HX.out.1) (L x) (HX.out.2) ?_; try simp only [Act.put, List.setIfInBounds_toArray, List.set_cons_zero, List.set_cons_succ]) | ((with_reducible refine at_qload 31 ?_); refine q_load_part (by rfl) 31 _ rfl (blk) (q * 5) rfl _ (A5) _ 5 (hgA5) Try.underlying31 rfl (by kernel_rfl) (HY.out.1) (L y) (HY.out.2) ?_; try simp only [Act.put, List.setIfInBounds_toArray, List.set_cons_zero, List.set_cons_succ]) | ((with_reducible refine at_qcallv ?_); refine q_call (.int .i64 (cf x y)) 14 #[.agg (L x), .agg (L y), cb] (by rfl) (fun wq hq => by go_simp) HCQ.out ?_; (try simp only [Act.put, List.setIfInBounds_toArray, List.set_cons_zero, List.set_cons_succ])) | ((with_reducible apply q_val); (case hw => rfl); (case hv => intro wq hbq; go_simp; try rfl); (try simp only [Act.put, List.setIfInBounds_toArray, List.set_cons_zero, List.set_cons_succ])))
            refine q_nil ?_
            intro w4 hb4
            obtain ⟨di', e1, e2, e3⟩ := OUT.out w4 ((HRD.out.below hb4).congr HDJ.out) (.inr (by
              obtain ⟨x1, x2, x3, x4, x5, x6⟩ := HXY.out
              rw [← x3, ← x4]; exact ltK_no x6 (fun h => by have := (HCF.out _ _).2 h; omega)))
            go_wp2
            go_roundg (b - (i + 1))
            case measure => omega
            case rel => exact ⟨i + 1, di', by go_num, by omega, rfl, by omega, e2, e3, e1⟩
        · obtain ⟨di', e1, e2, e3⟩ := OUT.out wr HRJ.out (.inl (by omega))
          have hja' : j = a := by omega
          clear HRJ OUT HRR
          subst hja'
          go_wp2
          refine wp_region_below (by kernel_rfl) (by kernel_rfl) ?_
          repeat (first | ((with_reducible apply q_skip); (case hw => rfl); (try simp only [Act.put, List.setIfInBounds_toArray, List.set_cons_zero, List.set_cons_succ])) | ((with_reducible apply q_val); (case hw => rfl); (case hv => intro wq hbq; go_simp; try rfl); (try simp only [Act.put, List.setIfInBounds_toArray, List.set_cons_zero, List.set_cons_succ])))
          refine q_nil ?_
          intro w4 hb4
          have HR4 := Lib.hid (e1.below hb4)
          clear e1
          go_wp2
          go_roundg (b - (i + 1))
          case measure => omega
          case rel => exact ⟨i + 1, di', by go_num, by omega, rfl, by omega, e2, e3, HR4.out⟩
    · rw [Nat.min_eq_right (by omega)] at hp hs
      have HP := Lib.hid hp
      have HS := Lib.hid hs
      have HR := Lib.hid hRi
      clear hp hs hRi
      go_wp2
      (try simp only [Exit.inBlock, Exit.then]); first | go_end0 | refine bodyPost_ret (results_none rfl _ _ _) rfl ?_
      exact ⟨rfl, di, HR.out, HP.out, HS.out⟩
end Go.Proofs.Ytoglcgijgckdaaa
