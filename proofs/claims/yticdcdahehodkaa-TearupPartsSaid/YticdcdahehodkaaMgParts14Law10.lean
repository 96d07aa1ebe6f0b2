/- Texts that Parts14Law stands on, one behind the other, part 10. Conditions: each theorem names its own. -/
import Derived.Test.YticdcdahehodkaaMgParts14Law9
import Derived.Laws.EntriesVeiled
import Derived.DeepKeys
import Derived.Laws.StructEq
import Derived.Great.BuildSlice
/-! tearup's Parts where the question is one. Condition: the numbers fit their kinds. -/
namespace Go.Proofs.Yticdcdahehodkaa
set_option linter.unusedVariables false
set_option linter.unusedSimpArgs false
open Go.RowKit

set_option maxRecDepth 100000 in
set_option maxHeartbeats 8000000 in
theorem tparts_ok (a : Option Addr) (n cap : Nat) (A Q : Nat → Int) (q : Int) (w : World) (hb : ∀ i, (0 ≤ A i ∧ A i ≤ 4294967295) ∧ F64 (Q i)) (hA : Holds w a n A Q) (hn : n ≤ 64) (hq0 : q ≠ 0) (hq : -10000000 ≤ q ∧ q ≤ 10000000) (hm : hmay A Q n = true) : TearC a n cap A Q q w := by
  have hni : ¬ (64 : Int) < n := by omega
  have cm := fun w2 hb2 => tmay_any a n cap A Q w2 hb (hA.kept (w' := w2) hb2) (by omega)
  have cw := fun w => within_any q 10000000 w (by unfold F64; omega) (by omega) (by omega)
  rw [inB_iff.2 hq] at cw
  rw [hm] at cm
  have hqz : (q == 0) = false := by rw [beq_eq_false_iff_ne]; exact hq0
  have HQ := Lib.hid hq
  have HA := Lib.hid hA
  have HM := Lib.hid hm
  have HB := Lib.hid hb
  clear hA hm hb
  have hTE := Lib.hid (show tE q n A Q = if sumZ (tW q n Q) n < absI q then 7 else 0 from by
    unfold tE; rw [if_neg (by omega), if_neg (fun h => ?_)]
    rcases h with h | h | h
    · exact hq0 h
    · rw [inB_iff.2 hq] at h; cases h
    · rw [HM.out] at h; cases h)
  unfold TearC
  obtain ⟨te, hte⟩ : ∃ te, te = tE q n A Q := ⟨_, rfl⟩
  rw [← hte]
  have HTE := Lib.hid hte
  clear hq hte
  go_enter Try.func12, Try.ntmps12
  go_wp2_with (first | (go_at_call 19; (with_reducible refine (cw _).mono ?_); rintro e w1 ⟨rfl, rfl⟩) | (go_at_call 20; (with_reducible refine (cm _ (below_new _ _)).mono ?_); rintro e w1 ⟨rfl, hb1⟩))
  have hs1 : w.heap.size < w1.heap.size := by have := hb1.size; simp at this; omega
  obtain ⟨g0, hg0⟩ : ∃ g, g = w.heap.size := ⟨_, rfl⟩
  obtain ⟨g1, hg1⟩ : ∃ g, g = w1.heap.size := ⟨_, rfl⟩
  have hq1 : w1.heap[g0]? = some (.cells #[.int .i64 q] 2 (0, 0)) := by rw [hg0]; exact Yticdcdahehodkaa.kept hb1 (heap_alloc_new w _)
  have hB1 := below_then (below_new w (Obj.cells #[.int .i64 q] 2)) hb1
  rw [← hg0, ← hg1]
  obtain ⟨wb, hwb⟩ : ∃ wb, wb = w1.alloc (Obj.cells #[.func (.func 21) #[] #[]] 47) := ⟨_, rfl⟩
  rw [← hwb]
  have hbq : wb.heap[g0]? = some (.cells #[.int .i64 q] 2 (0, 0)) := by rw [hwb]; exact Yticdcdahehodkaa.kept (below_new _ _) hq1
  have hbf : wb.heap[g1]? = some (.cells #[.func (.func 21) #[] #[]] 47 (0, 0)) := by rw [hwb, hg1]; exact heap_alloc_new _ _
  have HBB := Lib.hid (show Below w.heap.size w wb from by rw [hwb]; exact below_alloc hB1 _)
  have TP := Lib.hid (fun (wx : World) (hx : Below wb.heap.size wb wx) (x : Int) (h : -10000000 ≤ x ∧ x ≤ 10000000) => topp_any x q g0 g1 _ _ _ _ wx (by omega) (Yticdcdahehodkaa.kept hx hbq) (Yticdcdahehodkaa.kept hx hbf))
  have CQ := Lib.hid (fun (wx : World) (hx : Below wb.heap.size wb wx) => show wx.cell? ⟨g0, 0, none⟩ = some (.int .i64 q) ∧ wx.cell? ⟨g1, 0, none⟩ = some (.func (.func 21) #[] #[]) from
    ⟨cellF (Yticdcdahehodkaa.kept hx hbq) 0, cellF (Yticdcdahehodkaa.kept hx hbf) 0⟩)
  obtain ⟨b, hbs⟩ : ∃ b, b = wb.heap.size := ⟨_, rfl⟩
  have hwsz := HBB.out.size
  rw [← hbs] at hwsz
  clear hwb hbq hbf hq1 hB1 hb1 hg0 hg1 hs1 cm cw
  go_loopg [8, 9, 37] n (fun gh v8 v9 vi wr => ∃ k : Nat, k ≤ n ∧ gh = n - k ∧ vi = .int .i64 k ∧ v9 = .int .i64 (sumZ (tW q n Q) k) ∧ wr.ownsRow b 2 1 v8 k (zl (tW q n Q) k) ∧ Below wb.heap.size wb wr)
  case atStart => exact ⟨0, by omega, by omega, rfl, rfl, World.ownsRow_nil _ _ _ _, Below.refl _ _⟩
  case round =>
    obtain ⟨k, hk, rfl, rfl, rfl, hown, hbw⟩ := hrel
    have HO := Lib.hid hown
    have HW := Lib.hid hbw
    have HSM := Lib.hid (tW_sum (q := q) HM.out k hk)
    clear hown hbw
    by_cases hlt : k < n
    · obtain ⟨g, off, B, t, fr, rfl, hg, hs, he, c0, c1⟩ := (HA.out.kept (below_then HBB.out HW.out)).at hlt
      have hki : (k : Int) < n := by omega
      have hqk := (hmay_at HM.out hlt).2
      have hop := oppI_bd (q := q) hqk
      have HNX := Lib.hid (show sumZ (tW q n Q) (k + 1) = sumZ (tW q n Q) k + oppI q (Q k) from by
        show sumZ (tW q n Q) k + tW q n Q k = _
        rw [show tW q n Q k = oppI q (Q k) from if_pos hlt])
      have HZL := Lib.hid (show zl (tW q n Q) k ++ zl (fun _ => oppI q (Q k)) 1 = zl (tW q n Q) (k + 1) from by
        have := zl_snoc (tW q n Q) k
        rwa [show tW q n Q k = oppI q (Q k) from if_pos hlt] at this)
      obtain ⟨s0, hs0⟩ : ∃ s0, s0 = sumZ (tW q n Q) k := ⟨_, rfl⟩
      have hsb := HSM.out
      rw [← hs0] at HNX hsb ⊢
      have ct := fun wx hx => TP.out wx hx (Q k) hqk
      generalize oppI q (Q k) = m at *
      generalize A k = x at *
      generalize Q k = y at *
      have e0 := hA_0 x y
      have e1 := hA_1 x y
      have ws : IntKind.i64.wrap (s0 + m) = s0 + m := by rw [IntKind.wrap_i64]; omega
      have HBW := Lib.hid (below_alloc (o := Obj.cells (hA x y) 32) HW.out)
      have HNEW := Lib.hid (show ((wr.alloc (Obj.cells (hA x y) 32)).alloc (Obj.cells #[.int .i64 m] 2)).heap[wr.heap.size + 1]? = some (.cells #[.int .i64 m] 2 (0, 0)) from by have := heap_alloc_new (wr.alloc (Obj.cells (hA x y) 32)) (Obj.cells #[.int .i64 m] 2); simpa using this)
      have HOLD := Lib.hid (show ((wr.alloc (Obj.cells (hA x y) 32)).alloc (Obj.cells #[.int .i64 m] 2)).heap[wr.heap.size]? = some (.cells (hA x y) 32 (0, 0)) from (by repeat (first | exact heap_new (by simp; done) | refine heap_up ?_)))
      clear hs0
      go_wp2_with (first | ((with_reducible refine at_load 32 ?_); refine wpList_load_part rfl 32 _ rfl (g) (off + k * 2) rfl _ (B) _ _ 2 (hg) Try.underlying32 rfl (by kernel_rfl) (hs) (hA x y) (he) ?_) | ((with_reducible refine at_alloc 32 ?_); refine wpList_alloc_named rfl 32 rfl (hA 0 0) (by kernel_rfl) ?_) | ((with_reducible refine at_store 32 ?_); refine wpList_store_new rfl 32 _ _ rfl (hA x y) _ _ _ rfl (by simp) rfl (by rw [hA_size _ _]; kernel_rfl) (by rw [hA_size _ _]; rfl) (hA_all _ _) ?_) | (go_at_call 22; (with_reducible refine (ct _ HBW.out).mono ?_); rintro e wx ⟨rfl, rfl⟩) | (go_at_call 22; (with_reducible refine (ct _ HB2.out).mono ?_); rintro e wx ⟨rfl, rfl⟩) | ((with_reducible refine at_append 48 ?_); refine wpList_append_ints rfl _ _ rfl b u8 k (zl (tW q n Q) k) rfl ((HO.out.alloc _).alloc _) (some ⟨wr.heap.size + 1, 0, none⟩) 1 1 (fun _ => m) rfl (fun i hi => ⟨wr.heap.size + 1, 0, #[.int .i64 m], _, _, rfl, HNEW.out, by obtain rfl : i = 0 := (by omega); rfl⟩) (fun h => by cases h) (by omega) (by have := HW.out.size; simp; omega) ?_; intro v1 w2 hown2 hgr2; have HB2 := Lib.hid ((below_alloc HBW.out _).grown hgr2 (by have := HW.out.size; simp; omega) (fun p hp => by rw [← hbs]; exact (HO.out.lt p hp).1)); replace hown2 := Lib.hid hown2; have c21 : w2.cell? ⟨wr.heap.size, 1, none⟩ = some (.int .i64 y) := (by rw [cellF (show w2.heap[wr.heap.size]? = some (.cells (hA x y) 32 (0, 0)) from by rw [hgr2.block _ (by simp; omega) (fun e => by have := (HO.out.lt _ e.symm).2; omega)]; exact HOLD.out)]; rfl); clear hgr2))
      go_roundg (n - (k + 1))
      case measure => omega
      case rel => exact ⟨k + 1, by omega, rfl, by go_num, by rw [HNX.out], by rw [← HZL.out]; exact hown2.out, HB2.out⟩
    · obtain rfl : k = n := by omega
      obtain ⟨a7, c7, rfl, hI7⟩ := own_ints HO.out
      obtain ⟨q0, q1⟩ := CQ.out wr HW.out
      have cz := fun w => tsize_any q w (by have := HQ.out; omega)
      have hqa := absI_bd HQ.out
      have hsb := HSM.out
      obtain ⟨s0, hs0⟩ : ∃ s0, s0 = sumZ (tW q k Q) k := ⟨_, rfl⟩
      have HS0 := Lib.hid hs0
      rw [← hs0] at hsb ⊢
      by_cases hlow : s0 < absI q
      · have h7 : te = 7 := by rw [HTE.out, hTE.out, if_pos (by rw [← hs0]; exact hlow)]
        subst h7
        clear hs0
        generalize absI q = z at *
        go_wp2_with (first | (go_at_call 21; (with_reducible refine (cz _).mono ?_); rintro e wx ⟨rfl, rfl⟩))
        go_ret2
        exact ⟨⟨_, rfl, fun h => by rw [← HTE.out] at h; omega, fun _ => rfl⟩, below_then HBB.out HW.out⟩
      · have h7 : te = 0 := by rw [HTE.out, hTE.out, if_neg (by rw [← hs0]; exact hlow)]
        subst h7
        have hsp := tW_split (q := q) HM.out hn hq0 HQ.out (by rw [← hs0]; omega)
        have cs := split_any a7 k c7 (tW q k Q) (absI q) wr (fun i => by have := tW_bd (q := q) HM.out i; unfold F64; omega) hI7 (by unfold F64; omega)
        unfold SplC at cs
        rw [hsp] at cs
        have HSP := Lib.hid hsp
        have HPP := Lib.hid (show tP q k Q = splP (tW q k Q) k (absI q) from rfl)
        clear hs0 hsp hI7
        generalize absI q = z at *
        go_wp2_with (first | (go_at_call 21; (with_reducible refine (cz _).mono ?_); rintro e wx ⟨rfl, rfl⟩) | (go_at_call 23; (with_reducible refine (cs).mono ?_); rintro e w5 ⟨⟨v5, rfl, hv5⟩, hb5⟩; obtain ⟨gp, PA, rfl, hgp, hPA, hPs, hPp⟩ := hv5.1 HSP.out; replace hPA := Lib.hid hPA; replace hPp := Lib.hid hPp; replace hb5 := Lib.hid hb5; clear hv5 hPs hgp))
        have HB5 := Lib.hid (below_then HBB.out (below_then HW.out hb5.out))
        rw [show splP (tW q k Q) k z = tP q k Q from HPP.out.symm] at hPp
        obtain ⟨pp, hpp⟩ : ∃ pp, pp = tP q k Q := ⟨_, rfl⟩
        rw [← hpp] at hPp
        have HPE := Lib.hid hpp
        have hz5 := HB5.out.size
        clear cz hpp HO HS0 hqa hsb HSP HPP TP CQ hb5 hlow q0 q1
        go_loopg [14, 73] k (fun gh v14 vi wr => ∃ j : Nat, j ≤ k ∧ gh = k - j ∧ vi = .int .i64 j ∧ wr.ownsRow w5.heap.size 32 2 v14 (tm pp j) (flat (tR A pp j) (tm pp j)) ∧ Below w5.heap.size w5 wr)
        case atStart => exact ⟨0, by omega, by omega, rfl, World.ownsRow_nil _ _ _ _, Below.refl _ _⟩
        case round =>
          obtain ⟨j, hj, rfl, rfl, hown, hbw⟩ := hrel
          have HO := Lib.hid hown
          have HX := Lib.hid hbw
          clear hown hbw
          by_cases hlt : j < k
          · have hcp := ((cells_of (Yticdcdahehodkaa.kept HX.out hPA.out)).1 j).trans (hPp.out j hlt)
            obtain ⟨g, off, B, t, fr, rfl, hg, hs, he, c0, c1⟩ := (HA.out.kept (below_then HB5.out HX.out)).at hlt
            have hjk : (j : Int) < k := by omega
            have HT1 := Lib.hid (tm_succ pp j)
            have hst : tm pp j ≤ 64 := by have := cnt_le (fun i => decide (0 < pp i)) j; unfold tm; omega
            obtain ⟨m, hm⟩ : ∃ m, m = pp j := ⟨_, rfl⟩
            rw [← hm] at hcp HT1
            by_cases hp0 : 0 < m
            · have hpi : 0 < (m : Int) := by omega
              have HR1 := Lib.hid (show flat (tR A pp (j + 1)) (tm pp (j + 1)) = flat (tR A pp j) (tm pp j) ++ (hA (A j) (m : Int)).toList from by
                have e1 : tm pp (j + 1) = tm pp j + 1 := by rw [HT1.out, if_pos hp0]
                have e2 : tR A pp (j + 1) = snoc (tR A pp j) (tm pp j) (hA (A j) (m : Int)) := by
                  show (if 0 < pp j then snoc (tR A pp j) (tm pp j) (hA (A j) (pp j : Nat)) else tR A pp j) = _
                  rw [← hm, if_pos hp0]
                rw [e1, e2, flat_snoc])
              have HT2 := Lib.hid (show tm pp (j + 1) = tm pp j + 1 from by rw [HT1.out, if_pos hp0])
              generalize A j = x at *
              clear hm c1
              go_wp2_with (first | ((with_reducible refine at_build 32 ?_); refine wpList_build_named rfl 32 _ rfl (hA x (m : Int)) (by kernel_rfl) ?_) | ((with_reducible refine at_slice1 22 ?_); obtain ⟨ip, zp, ip1, ip2, ip3, ip4, ip5⟩ := info_hold; refine wpList_slice1c rfl 22 32 _ rfl (hA x (m : Int)) 2 rfl (hA_size _ _) ip zp Try.underlying22 ip1 ip2 ip3 ip5 (by omega) (by omega) ?_; clear ip1 ip2 ip3 ip4 ip5) | ((with_reducible refine at_append 22 ?_); refine wpList_append_row1 rfl _ _ rfl Try.underlying22 info_hold (by omega) (hA_size _ _) (hA_all _ _) w5.heap.size u14 (tm pp j) _ rfl HO.out rfl (by omega) HX.out.size ?_; intro v8 w8 ho8 hg8 hq8; replace ho8 := Lib.hid ho8; replace hg8 := Lib.hid hg8; replace hq8 := Lib.hid hq8))
              go_roundg (k - (j + 1))
              case measure => omega
              case rel => exact ⟨j + 1, by omega, rfl, by go_num, by rw [HR1.out, HT2.out]; exact ho8.out, (below_alloc HX.out _).grown hg8.out (by have := HX.out.size; simp; omega) hq8.out⟩
            · have hpi : ¬ 0 < (m : Int) := by omega
              have HR1 := Lib.hid (show flat (tR A pp (j + 1)) (tm pp (j + 1)) = flat (tR A pp j) (tm pp j) from by
                have e1 : tm pp (j + 1) = tm pp j := by rw [HT1.out, if_neg hp0]; rfl
                have e2 : tR A pp (j + 1) = tR A pp j := by
                  show (if 0 < pp j then snoc (tR A pp j) (tm pp j) (hA (A j) (pp j : Nat)) else tR A pp j) = _
                  rw [← hm, if_neg hp0]
                rw [e1, e2])
              have HT2 := Lib.hid (show tm pp (j + 1) = tm pp j from by rw [HT1.out, if_neg hp0]; rfl)
              clear hm c0 c1
              go_wp2
              go_roundg (k - (j + 1))
              case measure => omega
              case rel => exact ⟨j + 1, by omega, rfl, by go_num, by rw [HR1.out, HT2.out]; exact HO.out, HX.out⟩
          · obtain rfl : j = k := by omega
            go_wp2
            go_ret2
            exact ⟨⟨_, rfl, fun _ => by rw [← HPE.out]; exact own_weak HO.out hz5, fun h => absurd HTE.out.symm h⟩, below_then HB5.out HX.out⟩
end Go.Proofs.Yticdcdahehodkaa
/-! A struct of integers and bools as a key: it is as itself. No condition. -/
namespace Go.Proofs.Yticdcdahehodkaa
set_option linter.unusedVariables false
set_option linter.unusedSimpArgs false
open Go.RowKit

theorem mapM_ex {α β : Type} {f : α → Option β} : ∀ l : List α, (∀ x ∈ l, ∃ b, f x = some b) → ∃ bs, l.mapM f = some bs
  | [], _ => ⟨[], rfl⟩
  | x :: l, h => by
    obtain ⟨b, hb⟩ := h x (by simp)
    obtain ⟨bs, hbs⟩ := mapM_ex l (fun y hy => h y (by simp [hy]))
    exact ⟨b :: bs, by rw [List.mapM_cons, hb, hbs]; rfl⟩
theorem kl_int {d o : Nat} {t : TypeId} {k : IntKind} {cs : List Value} (hu : Try.prog.underlying t = some (.int k)) (hc : Try.prog.cellsOf t = 1) (h : IsN cs.toArray k o) :
    ∃ l, Try.prog.keyLits (d + 1) t ((cs.drop o).take (Try.prog.cellsOf t)) = some l := by
  obtain ⟨h1, h2⟩ := h
  have h1' : cs[o]? = some (.int k (N cs.toArray o)) := by simpa using h1
  have hlt : o < cs.length := (List.getElem?_eq_some_iff.1 h1').1
  have e : (cs.drop o).take 1 = [.int k (N cs.toArray o)] := by
    rw [List.drop_eq_getElem_cons hlt, List.take_succ_cons, List.take_zero, (List.getElem?_eq_some_iff.1 h1').2]
  rw [hc, e]
  unfold Program.keyLits
  rw [hu]
  have hw : (Lit.int k (N cs.toArray o)).wf = true := by simpa [Lit.wf] using h2
  simp [hw]
theorem kl_fields {d : Nat} {t : TypeId} {fs : Array Field} {cs : List Value} (ht : Try.prog.underlying t = some (.struct fs)) (hl : cs.length = Try.prog.cellsOf t) (hn : fs.all (·.name != "_") = true)
    (h : ∀ f ∈ fs.toList, ∃ l, Try.prog.keyLits d f.type ((cs.drop f.offset).take (Try.prog.cellsOf f.type)) = some l) : ∃ l, Try.prog.keyLits (d + 1) t cs = some l := by
  obtain ⟨bs, hb⟩ := mapM_ex fs.toList h
  unfold Program.keyLits
  rw [ht]
  simp only [hl, hn, and_self, if_true, hb]
  exact ⟨_, rfl⟩
theorem neq_keys {t : TypeId} {fs : Array Field} {A : Array Value} (ht : Try.prog.underlying t = some (.struct fs)) (hs : A.size = Try.prog.cellsOf t) (hk : Try.prog.keyTypeAt 4 t = true) (hl : ∃ l, Try.prog.keyLits 4 t A.toList = some l) (w : World) :
    (binOp .neq t (.agg A) (.agg A)).run Try.prog w = .ok (.bool false) w := by
  obtain ⟨l, hl⟩ := hl
  have hf : (Value.agg A).formed Try.prog t = true := by
    simp [Value.formed, ht, hs]
  obtain ⟨r, h1, h2⟩ := run_equalIn_deep (P := Try.prog) 9996 4 t hk w 4 4 (.agg A) (.agg A) l l hf hf hl hl
  rw [show (9996 + 4 : Nat) = 10000 from rfl] at h1
  rw [run_neq_struct, h1, h2.2 rfl]; rfl
section
variable {P : Program} {ops : Array Oper} {rest : List Oper} {o : Oper} {a : Act} {Q : Act → Prop}
/-- A whole aggregate is loaded, in a region that draws, whatever is frozen. -/
theorem q_load_fr {W : World} (hw : Region.wanted o (yielded ops a.tmps) = true) (ty : TypeId) (x : Operand) (ho : o.op = .load ty x)
    (g off : Nat) (hx : a.eval x = .pointer (some ⟨g, off, none⟩)) (t : TypeId) (cs : Array Value) (fr : Nat × Nat) (d : TypeDesc) (n : Nat) (hg : W.heap[g]? = some (.cells cs t fr))
    (hu : P.underlying ty = some d) (hd : (match d with | .struct _ | .array _ _ => true | _ => false) = true) (hi : (P.info? ty).map (·.size) = some n) (hn : off + n ≤ cs.size)
    (B : Array Value) (hB : cs.extract off (off + n) = B)
    (h : WQ P ops (fun w' => Below W.heap.size W w') Q rest (a.put o.dst (.agg B))) : WQ P ops (fun w' => Below W.heap.size W w') Q (o :: rest) a :=
  q_val (.agg B) hw (fun w hC => by
    unfold execOp
    simp only [ho, hx, Instr.loadAt, Instr.sureAddr, Sem.run_bind, Sem.run_pure, Result.andThen_ok, run_loadVar_part w g off t ty cs fr d n (kept hC hg) hu hd hi hn, hB]) h
end
end Go.Proofs.Yticdcdahehodkaa
/-! A slice built of named cells. No condition. -/
namespace Go.Proofs.Yticdcdahehodkaa
set_option linter.unusedVariables false
set_option linter.unusedSimpArgs false
open Go.RowKit

theorem at_buildSlice (T : TypeId) {P : Program} {ops : Array Oper} {Q : Exit → Act → World → Prop} {rest : List Oper} {a : Act} {w : World} {d : Option Tmp} {n : Nat} {ps : Array (Nat × Operand)} {ty : TypeId} {pos : String} {af : Array Edge} {gd : Option (Nat × Bool)}
    (h : wpList P ops Q (⟨d, .buildSlice T n ps, ty, pos, af, gd⟩ :: rest) a w) : wpList P ops Q (⟨d, .buildSlice T n ps, ty, pos, af, gd⟩ :: rest) a w := h
def sliceCells (P : Program) (e : TypeId) (len : Nat) (ps : List (Nat × Value)) : Option (Array Value) :=
  (P.info? e).bind fun ie => ie.zero.bind fun z => if len * ie.size > 2 ^ 24 ∨ len * ie.size = 0 then none else
    Instr.fill (fun i => some (i * ie.size, ie.size)) ((Array.range (len * ie.size)).map (z.cells[· % z.cells.size]!)) ps
theorem wpList_slice_named {P : Program} {ops : Array Oper} {rest : List Oper} {o : Oper} {a : Act} {w : World} {Q : Exit → Act → World → Prop} (hg : o.guard = none) (t e : TypeId) (len : Nat) (parts : Array (Nat × Operand)) (ho : o.op = .buildSlice t len parts)
    (B : Array Value) (hu : P.underlying t = some (.slice e)) (hf : sliceCells P e len (parts.map fun (i, x) => (i, a.eval x)).toList = some B)
    (h : wpList P ops Q rest (a.put o.dst (.slice (some ⟨w.heap.size, 0, none⟩) len len)) (w.alloc (.cells B e))) : wpList P ops Q (o :: rest) a w := by
  unfold sliceCells at hf
  cases hie : P.info? e with
  | none => simp [hie] at hf
  | some ie =>
    cases hz : ie.zero with
    | none => simp [hie, hz] at hf
    | some z =>
      simp only [hie, hz, Option.bind_some] at hf
      split at hf
      · simp at hf
      · rename_i hn
        exact wpList_buildSlice hg t e len parts ho B ie z hu hie hz (fun h => hn (Or.inl h)) (fun h => hn (Or.inr h)) hf h
end Go.Proofs.Yticdcdahehodkaa
/-! tearup's Parts of anything; the document's Same of holders; the known example. Condition: the numbers fit their kinds. -/
namespace Go.Proofs.Yticdcdahehodkaa
set_option linter.unusedVariables false
set_option linter.unusedSimpArgs false
open Go.RowKit

theorem tparts_any (a : Option Addr) (n cap : Nat) (A Q : Nat → Int) (q : Int) (w : World) (hb : ∀ i, (0 ≤ A i ∧ A i ≤ 4294967295) ∧ F64 (Q i)) (hA : Holds w a n A Q) (hq : F64 q) : TearC a n cap A Q q w := by
  by_cases h1 : 64 < n ∨ q = 0 ∨ inB q (-10000000) 10000000 = false ∨ hmay A Q n = false
  · exact tparts_bad a n cap A Q q w hb hA hq h1
  · have h2 : inB q (-10000000) 10000000 = true := by
      cases h : inB q (-10000000) 10000000
      · exact absurd (.inr (.inr (.inl h))) h1
      · rfl
    have h3 : hmay A Q n = true := by
      cases h : hmay A Q n
      · exact absurd (.inr (.inr (.inr h))) h1
      · rfl
    exact tparts_ok a n cap A Q q w hb hA (by
      apply Classical.byContradiction; intro h; exact h1 (.inl (by omega))) (fun h => h1 (.inr (.inl h))) (inB_iff.1 h2) h3

theorem neq_hold (x y : Int) (hx : 0 ≤ x ∧ x ≤ 4294967295) (hy : F64 y) (w : World) : (binOp .neq 32 (.agg (hA x y)) (.agg (hA x y))).run Try.prog w = .ok (.bool false) w := by
  have hc : Try.prog.cellsOf 32 = 2 := by kernel_rfl
  have c2 : Try.prog.cellsOf 2 = 1 := by kernel_rfl
  have c3 : Try.prog.cellsOf 30 = 1 := by kernel_rfl
  refine neq_keys Try.underlying32 (by rw [hc]; rfl) (by kernel_rfl) (kl_fields Try.underlying32 (by rw [hc]; rfl) (by kernel_rfl) fun f hf => ?_) w
  simp only [List.mem_cons, List.not_mem_nil, or_false] at hf
  rcases hf with rfl | rfl
  · exact kl_int Try.underlying30 c3 (IsN_of (n := x) rfl hx)
  · exact kl_int Try.underlying2 c2 (IsN_of (n := y) rfl hy)

set_option maxHeartbeats 2000000 in
/-- two rows of holders alike -/
theorem same14_any (a b : Option Addr) (n ca cb : Nat) (A Q : Nat → Int) (w : World) (hb : ∀ i, i < n → (0 ≤ A i ∧ A i ≤ 4294967295) ∧ F64 (Q i)) (hA : Holds w a n A Q) (hB : Holds w b n A Q) (hn : n ≤ 100000) :
    Calls Try.prog 14 #[.slice a n ca, .slice b n cb] w fun e w' => e = .returned (.bool true) ∧ Below w.heap.size w w' := by
  have HA := Lib.hid hA
  have HB := Lib.hid hB
  have HD := Lib.hid hb
  clear hA hB hb
  go_enter Try.func14, Try.ntmps14
  go_wp2
  go_loopg [5] n (fun gh i wr => ∃ k : Nat, k ≤ n ∧ gh = n - k ∧ i = .int .i64 k ∧ Below w.heap.size w wr)
  case atStart => exact ⟨0, by omega, by omega, rfl, Below.refl _ _⟩
  case round =>
    obtain ⟨k, hk, rfl, rfl, hb⟩ := hrel
    by_cases hlt : k < n
    · obtain ⟨g, off, B, t, fr, rfl, hg, hs, he, _, _⟩ := (HA.out.kept hb).at hlt
      obtain ⟨g2, off2, B2, t2, fr2, rfl, hg2, hs2, he2, _, _⟩ := (HB.out.kept hb).at hlt
      have hki : (k : Int) < n := by omega
      have hne := neq_hold (A k) (Q k) (HD.out k hlt).1 (HD.out k hlt).2
      generalize hA (A k) (Q k) = X at *
      go_wp2
      refine wp_region_below (by kernel_rfl) (by kernel_rfl) ?_
      repeat (first | ((with_reducible apply q_skip); (case hw => rfl); (try simp only [Act.put, List.setIfInBounds_toArray, List.set_cons_zero, List.set_cons_succ])) | ((with_reducible refine at_qload 32 ?_); refine q_load_fr (by rfl) 32 _ rfl (g) (off + k * 2) rfl _ (B) _ _ 2 (hg) Try.underlying32 rfl (by kernel_rfl) (hs) (X) (he) ?_; try simp only [Act.put, List.setIfInBounds_toArray, List.set_cons_zero, List.set_cons_succ]) | ((with_reducible refine at_qload 32 ?_); refine q_load_fr (by rfl) 32 _ rfl (g2) (off2 + k * 2) rfl _ (B2) _ _ 2 (hg2) Try.underlying32 rfl (by kernel_rfl) (hs2) (X) (he2) ?_; try simp only [Act.put, List.setIfInBounds_toArray, List.set_cons_zero, List.set_cons_succ]) | ((with_reducible apply q_val); (case hw => rfl); (case hv => intro wq hbq; go_simp; try rfl); (try simp only [Act.put, List.setIfInBounds_toArray, List.set_cons_zero, List.set_cons_succ])))
      refine q_nil ?_
      intro w4 hb4
      go_wp2
      go_roundg (n - (k + 1))
      case measure => omega
      case rel => exact ⟨k + 1, by omega, rfl, by go_num, below_then hb hb4⟩
    · obtain rfl : k = n := by omega
      go_wp2
      go_ret
      exact ⟨rfl, hb⟩

/-- the known example's holders -/
def kA : Nat → Int := fun i => if i = 0 then 1 else if i = 1 then 2 else 3
def kQ : Nat → Int := fun i => if i = 0 then -10 else if i = 1 then -20 else 5
theorem k_tE : tE 10 3 kA kQ = 0 := by decide
theorem k_tm : tm (tP 10 3 kQ) 3 = 2 := by decide
theorem k_tR0 : tR kA (tP 10 3 kQ) 3 0 = hA 1 3 := by kernel_rfl
theorem k_tR1 : tR kA (tP 10 3 kQ) 3 1 = hA 2 7 := by kernel_rfl
theorem rowsT_holds {w : World} {t : TypeId} {a : Option Addr} {n : Nat} {L : Nat → Array Value} {A Q : Nat → Int} (h : RowsT w t 2 a n L) (e : ∀ i, i < n → L i = hA (A i) (Q i)) : Holds w a n A Q := fun i hi => by
  obtain ⟨g, off, B, fr, h1, h2, h3, h4⟩ := h i hi
  exact ⟨g, off, B, t, fr, h1, h2, h3, by rw [h4, e i hi]⟩
/-- rows that a block holds, one behind the other -/
theorem block_holds {w : World} {g n : Nat} {B : Array Value} {t : TypeId} {fr : Nat × Nat} {A Q : Nat → Int} (hg : w.heap[g]? = some (.cells B t fr)) (hs : B.size = n * 2) (h : ∀ i, i < n → B[i * 2]? = some (.int .u32 (A i)) ∧ B[i * 2 + 1]? = some (.int .i64 (Q i))) : Holds w (some ⟨g, 0, none⟩) n A Q := fun i hi => by
  refine ⟨g, 0, B, t, fr, rfl, hg, by omega, ?_⟩
  apply Array.ext_getElem?
  intro j
  rw [Array.getElem?_extract]
  by_cases h0 : j = 0
  · subst h0; rw [if_pos (by omega), Nat.zero_add, Nat.add_zero, (h i hi).1]; rfl
  · by_cases h1 : j = 1
    · subst h1; rw [if_pos (by omega), Nat.zero_add, (h i hi).2]; rfl
    · rw [if_neg (by omega), Array.getElem?_eq_none_iff.2 (by rw [hA_size]; omega)]
def rA : Nat → Int := fun i => if i = 0 then 1 else 2
def rQ14 : Nat → Int := fun i => if i = 0 then 3 else 7
set_option maxRecDepth 100000 in
set_option maxHeartbeats 2000000 in
theorem known14 (w : World) : Calls Try.prog 11 #[] w fun e w' => e = .returned (.bool true) ∧ Below w.heap.size w w' := by
  have h1 : Holds (w.alloc (.cells #[.int .u32 1, .int .i64 (-10), .int .u32 2, .int .i64 (-20), .int .u32 3, .int .i64 5] 32)) (some ⟨w.heap.size, 0, none⟩) 3 kA kQ :=
    block_holds (heap_alloc_new _ _) rfl (fun i hi => by
      have : i = 0 ∨ i = 1 ∨ i = 2 := by omega
      rcases this with rfl | rfl | rfl <;> exact ⟨rfl, rfl⟩)
  have c1 := tparts_any (some ⟨w.heap.size, 0, none⟩) 3 3 kA kQ 10 _ (fun i => by unfold kA kQ F64; split <;> (try split) <;> omega) h1 (by unfold F64; omega)
  unfold TearC at c1
  rw [k_tE] at c1
  have HT := Lib.hid (fun (s : Nat) (w' : World) (v : Value) (h : TearV 10 3 kA kQ s w' v) => show ∃ a c, v = .slice a 2 c ∧ Holds w' a 2 rA rQ14 from by
    have h2 := h.1 k_tE
    rw [k_tm] at h2
    obtain ⟨a, c, e, h3, _⟩ := own_rows (fun i => tR_size _ _ _ i) h2
    refine ⟨a, c, e, rowsT_holds h3 (fun i hi => ?_)⟩
    have : i = 0 ∨ i = 1 := by omega
    rcases this with rfl | rfl
    · exact k_tR0
    · exact k_tR1)
  have HS := Lib.hid (fun (wx : World) (a : Option Addr) (c : Nat) (h : Holds wx a 2 rA rQ14) => same14_any a (some ⟨wx.heap.size, 0, none⟩) 2 c 2 rA rQ14 (wx.alloc (.cells #[.int .u32 1, .int .i64 3, .int .u32 2, .int .i64 7] 32)) (fun i _ => by unfold rA rQ14 F64; split <;> omega) (h.kept (below_new _ _)) (block_holds (heap_alloc_new _ _) rfl (fun i hi => by
      have : i = 0 ∨ i = 1 := by omega
      rcases this with rfl | rfl <;> exact ⟨rfl, rfl⟩)) (by omega))
  clear h1
  go_enter Try.func11, Try.ntmps11
  go_wp2_with (first | ((with_reducible refine at_buildSlice 22 ?_); refine wpList_slice_named rfl 22 32 3 _ rfl #[.int .u32 1, .int .i64 (-10), .int .u32 2, .int .i64 (-20), .int .u32 3, .int .i64 5] Try.underlying22 (by kernel_rfl) ?_) | (go_at_call 12; (with_reducible refine (c1).mono ?_); rintro e w1 ⟨⟨v, rfl, hv⟩, hb1⟩; obtain ⟨a2, c2, rfl, h2⟩ := HT.out _ _ _ hv; have cs := HS.out _ _ c2 h2; clear hv h2) | ((with_reducible refine at_buildSlice 22 ?_); refine wpList_slice_named rfl 22 32 2 _ rfl #[.int .u32 1, .int .i64 3, .int .u32 2, .int .i64 7] Try.underlying22 (by kernel_rfl) ?_) | (go_at_call 14; (with_reducible refine (cs).mono ?_); rintro e w2 ⟨rfl, hb2⟩))
  go_ret
  exact ⟨rfl, below_then (below_then (below_new _ _) hb1) (below_then (below_new _ _) hb2)⟩
end Go.Proofs.Yticdcdahehodkaa
/-! What holds of the parts of a split. No condition but that there are parts. -/
namespace Go.Proofs.Yticdcdahehodkaa
set_option linter.unusedVariables false
set_option linter.unusedSimpArgs false

/-- the laws of the parts -/
structure Parts (Z : Nat → Int) (n : Nat) (T : Int) : Prop where
  sum : (sumN (splP Z n T) n : Nat) = T
  bd : ∀ i, i < n → (splP Z n T i : Int) ≤ T
  none : ∀ i, i < n → Z i = 0 → splP Z n T i = 0
  most : ∀ i, i < n → T ≤ sumZ Z n → (splP Z n T i : Int) ≤ Z i
  mono : ∀ i k, i < n → k < n → Z k < Z i → splP Z n T k ≤ splP Z n T i
  same : ∀ i k, i < n → k < i → Z i = Z k → splP Z n T i ≤ splP Z n T k ∧ splP Z n T k ≤ splP Z n T i + 1
theorem sumN_two (W : Nat → Nat) {n i k : Nat} (hi : i < n) (hk : k < i) : W k + W i ≤ sumN W n := by
  have h1 := sumN_mono W n (show i + 1 ≤ n by omega)
  have h2 := sumN_one W hk
  have e : sumN W (i + 1) = sumN W i + W i := rfl
  omega
theorem Parts.two {Z : Nat → Int} {n : Nat} {T : Int} (h : Parts Z n T) : ∀ i k, i < n → k < i → (splP Z n T k : Int) + splP Z n T i ≤ T := fun i k hi hk => by
  have := sumN_two (splP Z n T) hi hk
  have := h.sum
  omega
theorem parts_of {Z : Nat → Int} {n : Nat} {T : Int} (h : splE Z n T = 0) : Parts Z n T := by
  obtain ⟨h1, h2, h3, h4, h5, h6⟩ := splE_zero h
  by_cases h0 : T = 0
  · subst h0
    have e : ∀ i, splP Z n 0 i = 0 := fun i => prt_zero _ _ _
    have es : sumN (splP Z n 0) n = 0 := by rw [sumN_congr (V := fun _ => 0) n (fun i _ => e i), sumN_const]; omega
    exact ⟨by rw [es]; rfl, fun i _ => by rw [e]; omega, fun i _ _ => e i, fun i hi _ => by rw [e]; have := h3 i hi; omega, fun i k _ _ _ => by rw [e, e]; omega, fun i k _ _ _ => by rw [e, e]; omega⟩
  · have hS := h4 h0
    obtain ⟨t, rfl⟩ : ∃ t : Nat, T = (t : Int) := ⟨T.toNat, by omega⟩
    have e : ∀ i, splP Z n (t : Int) i = prt (wts Z) n t i := fun i => rfl
    have ez : ∀ i, i < n → Z i = (wts Z i : Nat) := fun i hi => by have := h3 i hi; unfold wts; omega
    refine ⟨?_, fun i hi => ?_, fun i hi hz => ?_, fun i hi hT => ?_, fun i k hi hk hz => ?_, fun i k hi hk hz => ?_⟩
    · have : sumN (splP Z n (t : Int)) n = t := prt_sum hS
      rw [this]
    · rw [e]; have := prt_le (T := t) hS hi; omega
    · rw [e]; exact prt_none hS hi (by have := ez i hi; omega)
    · rw [e, ez i hi]
      have := prt_within (T := t) hS hi (by omega)
      omega
    · rw [e, e]; exact prt_mono hS hi hk (by have := ez i hi; have := ez k hk; omega)
    · rw [e, e]; exact prt_same hS hi hk (by have := ez i hi; have := ez k (by omega); omega)

end Go.Proofs.Yticdcdahehodkaa
