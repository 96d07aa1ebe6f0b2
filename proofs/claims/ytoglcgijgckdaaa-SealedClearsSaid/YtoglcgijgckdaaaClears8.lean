/- SealedClears, walked: it returns true. Condition: the numbers fit their kinds. -/
import Derived.Test.YtoglcgijgckdaaaRClr8
import Derived.Test.YtoglcgijgckdaaaKn8
import Derived.Laws.AppendOwnNone
namespace Go.Proofs.Ytoglcgijgckdaaa
set_option linter.unusedVariables false
set_option linter.unusedSimpArgs false
open Go.RowKit

theorem own_emptyT (W : World) (e : TypeId) (c : Nat) : (W.alloc (.cells #[] e)).ownsRow W.heap.size e c (.slice (some ⟨W.heap.size, 0, none⟩) 0 0) 0 [] :=
  ⟨by simp, .inr ⟨W.heap.size, 0, #[], rfl, Nat.le_refl _, heap_alloc_new _ _, Nat.le_refl _, by unfold maxLen; omega, by simp, by simp⟩⟩
theorem rowsC_of_T9 {w : World} {t : TypeId} {c n : Nat} {a : Option Addr} {L : Nat → Array Value} (h : RowsT w t c a n L) : RowsC w c a n L := fun i hi => by
  obtain ⟨g, off, A, fr, h1, h2, h3, h4⟩ := h i hi
  exact ⟨g, off, A, t, fr, h1, h2, h3, h4⟩
/-- 'append([]Order{}, bids...)' -/
theorem wpList_append_ords {ops : Array Oper} {rest : List Oper} {o : Oper} {a : Act} {w : World} {Q : Exit → Act → World → Prop} (hgd : o.guard = none) (s x : Operand)
    (ho : o.op = .call { callee := .builtin .append, args := #[s, x], argTypes := #[22, 22] })
    (base : Nat) (v : Value) (hs : a.eval s = v) (hown : w.ownsRow base 31 5 v 0 [])
    (ad : Option Addr) (m cp : Nat) (L : Nat → Array Value) (hL : ∀ i, IsOrd (L i)) (hx : a.eval x = .slice ad m cp) (hl : RowsC w 5 ad m L) (hnil : ad = none → m = 0 ∧ cp = 0)
    (hm : m ≤ 100000) (hbase : base ≤ w.heap.size)
    (h : ∀ v' w', w'.ownsRow base 31 5 v' m (flat L m) → w.grownBy w' v.ownBlock → wpList Try.prog ops Q rest (a.put o.dst v') w') : wpList Try.prog ops Q (o :: rest) a w := by
  obtain ⟨i, z, h1, h2, h3, h4, h5⟩ := info_ord
  cases ad with
  | none =>
    obtain ⟨rfl, rfl⟩ := hnil rfl
    refine wpList_append_own_none hgd s x _ ho base _ i 5 Try.underlying22 h1 v 0 [] hs hown hx ?_
    exact h v w hown ⟨rfl, rfl, rfl, Nat.le_refl _, fun _ _ _ => rfl⟩
  | some ad =>
    refine wpList_append_own w hgd s x _ ho base _ i z 5 i.bytes Try.underlying22 h1 h2 h3 rfl h5 (by omega) v 0 [] hs hown ad m cp (flat L m) hx (flatc_len (fun i => (hL i).size) m) (rows_at (by omega) (fun i => (hL i).size) (fun i hi => by obtain ⟨g, off, A, t, fr, r⟩ := hl i hi; exact ⟨g, off, A, t, fr, r⟩)) (flatc_one (fun i => (hL i).all) m) (by unfold maxLen; omega) ?_ hbase ?_
    · have := Nat.mul_le_mul (show 0 + m ≤ 100000 by omega) h4
      omega
    · intro v' w' h6 h7 _
      rw [Nat.zero_add, List.nil_append] at h6
      exact h v' w' h6 h7
/-- equal fills are the same -/
theorem same8_any (a1 a2 : Option Addr) (m c1 c2 : Nat) (F : Nat → Array Value) (w : World) (h1 : RowsC w 3 a1 m F) (h2 : RowsC w 3 a2 m F) (hF : ∀ k, k < m → ∀ w : World, (binOp .neq 36 (.agg (F k)) (.agg (F k))).run Try.prog w = .ok (.bool false) w) (hm : m ≤ 100000) :
    Calls Try.prog 10 #[.slice a1 m c1, .slice a2 m c2] w fun e w' => e = .returned (.bool true) ∧ Below w.heap.size w w' := by
  have HRF := Lib.hid h1
  have HRG := Lib.hid h2
  have HNE := Lib.hid hF
  clear h1 h2 hF
  go_enter Try.func10, Try.ntmps10
  go_wp2
  go_loopg [5] m (fun gh i wr => ∃ k : Nat, k ≤ m ∧ gh = m - k ∧ i = .int .i64 k ∧ Below w.heap.size w wr)
  case atStart => exact ⟨0, by omega, by omega, rfl, Below.refl _ _⟩
  case round =>
    obtain ⟨k, hk, rfl, rfl, hb⟩ := hrel
    by_cases hlt : k < m
    · have hlti : (k : Int) < (m : Int) := by omega
      obtain ⟨g1, o1, A1, t1, f1, rfl, hg1, hs1, hx1⟩ := (HRF.out.kept hb) k hlt
      obtain ⟨g2, o2, A2, t2, f2, rfl, hg2, hs2, hx2⟩ := (HRG.out.kept hb) k hlt
      have hneq := HNE.out k hlt
      have HBX := Lib.hid hb
      clear hb
      generalize F k = FV at *
      have HX1 := Lib.hid hx1
      have HX2 := Lib.hid hx2
      clear hx1 hx2
      go_wp2
      refine wp_region_below (by kernel_rfl) (by kernel_rfl) ?_
      repeat (first | ((with_reducible apply q_skip); (case hw => rfl); (try simp only [Act.put, List.setIfInBounds_toArray, List.set_cons_zero, List.set_cons_succ])) | ((with_reducible refine at_qload 36 ?_); refine q_load_fr (by rfl) 36 _ rfl (g1) (o1 + k * 3) rfl _ (A1) _ _ 3 (hg1) Try.underlying36 rfl (by kernel_rfl) (hs1) (FV) (HX1.out) ?_; try simp only [Act.put, List.setIfInBounds_toArray, List.set_cons_zero, List.set_cons_succ]) | ((with_reducible refine at_qload 36 ?_); refine q_load_fr (by rfl) 36 _ rfl (g2) (o2 + k * 3) rfl _ (A2) _ _ 3 (hg2) Try.underlying36 rfl (by kernel_rfl) (hs2) (FV) (HX2.out) ?_; try simp only [Act.put, List.setIfInBounds_toArray, List.set_cons_zero, List.set_cons_succ]) | ((with_reducible apply q_val); (case hw => rfl); (case hv => intro wq hbq; go_simp; try rfl); (try simp only [Act.put, List.setIfInBounds_toArray, List.set_cons_zero, List.set_cons_succ])))
      refine q_nil ?_
      intro w4 hb4
      have HB4 := Lib.hid (below_then HBX.out hb4)
      go_wp2
      go_roundg (m - (k + 1))
      case measure => omega
      case rel => exact ⟨k + 1, by omega, rfl, by go_num, HB4.out⟩
    · obtain rfl : k = m := by omega
      go_wp2
      go_ret
      exact ⟨rfl, hb⟩
/-- what the program's auction gives, in one form -/
theorem clr_one {sells : Bool} {Q : Int} {n : Nat} {L : Nat → Array Value} {w w' : World} {e : Ending} (h : ClrOut sells Q n L w e w') :
    ∃ d p v m, (clE sells Q L n = 0 → PermOn 0 n id d ∧ Srt (keyS sells L) 0 n d) ∧ e = .returned (.tuple #[.int .i64 p, v, .int .i64 (clE sells Q L n)]) ∧ w'.ownsRow w.heap.size 36 3 v m (flat (fillA Q L d) m) ∧ m ≤ n ∧ (clE sells Q L n ≠ 0 → p = 0 ∧ m = 0) ∧ (clE sells Q L n = 0 → p = prc L d (nf Q (vS L d) n) ∧ m = nf Q (vS L d) n) := by
  rcases h with ⟨h0, rfl⟩ | ⟨h0, d, fv, hp, hs, rfl, ho⟩
  · exact ⟨id, 0, _, 0, fun h => absurd h h0, rfl, World.ownsRow_nil _ _ _ _, by omega, fun _ => ⟨rfl, rfl⟩, fun h => absurd h h0⟩
  · exact ⟨d, _, fv, _, fun _ => ⟨hp, hs⟩, by rw [h0], ho, nf_le n, fun h => absurd h0 h, fun _ => ⟨rfl, rfl⟩⟩
theorem rclr_one {sells : Bool} {Q : Int} {n m : Nat} {p : Int} {L : Nat → Array Value} {d : Nat → Nat} {w w' : World} {e : Ending} (h : RClrOut sells Q n L d w e w') (h1 : clE sells Q L n ≠ 0 → p = 0 ∧ m = 0) (h2 : clE sells Q L n = 0 → p = prc L d (nf Q (vS L d) n) ∧ m = nf Q (vS L d) n) :
    ∃ v, e = .returned (.tuple #[.int .i64 p, v, .int .i64 (clE sells Q L n)]) ∧ w'.ownsRow w.heap.size 36 3 v m (flat (fillA Q L d) m) := by
  rcases h with ⟨h0, rfl⟩ | ⟨h0, fv, rfl, ho⟩
  · obtain ⟨rfl, rfl⟩ := h1 h0
    exact ⟨_, rfl, World.ownsRow_nil _ _ _ _⟩
  · obtain ⟨rfl, rfl⟩ := h2 h0
    exact ⟨fv, by rw [h0], ho⟩
theorem fill_neq {sells : Bool} {Q : Int} {n m : Nat} {L : Nat → Array Value} {d : Nat → Nat} (hL : ∀ i, IsOrd (L i)) (hd : clE sells Q L n = 0 → PermOn 0 n id d ∧ Srt (keyS sells L) 0 n d) (h1 : clE sells Q L n ≠ 0 → m = 0) (hm : m ≤ n) (k : Nat) (hk : k < m) (w : World) :
    (binOp .neq 36 (.agg (fillA Q L d k)) (.agg (fillA Q L d k))).run Try.prog w = .ok (.bool false) w := by
  by_cases h0 : clE sells Q L n = 0
  · obtain ⟨hp, hs⟩ := hd h0
    obtain ⟨t, hA⟩ := auc_of h0 hp hs
    have hO := hL (d k)
    refine neq_fill _ _ _ hO.n.2 hO.a.2 ?_ w
    have h1 := gv_bd (Q := Q) (v := vS L d) (by have := hA.q1; omega) hA.v0 (show k < n by omega)
    have h2 := (hA.bd (hA.dl k (show k < n by omega))).2.2
    have h3 : vS L d k = N (L (d k)) 4 := rfl
    unfold F64; omega
  · have := h1 h0; omega
set_option maxRecDepth 100000 in
set_option maxHeartbeats 4000000 in
theorem clears8_law (sells : Bool) (Q : Int) (ad : Option Addr) (n cap : Nat) (L : Nat → Array Value) (w : World) (hQ : F64 Q) (hL : ∀ i, IsOrd (L i)) (hR : RowsC w 5 ad n L) (_ : n ≤ cap) (_ : cap ≤ 9223372036854775807) (hz : ad = none → n = 0 ∧ cap = 0) :
    Calls Try.prog 3 #[.bool sells, .int .i64 Q, .slice ad n cap] w fun e w' => e = .returned (.bool true) ∧ Below w.heap.size w w' := by
  have HR := Lib.hid hR
  have HL := Lib.hid hL
  have HQ := Lib.hid hQ
  have HZ := Lib.hid hz
  clear hR hL hz hQ
  by_cases h200 : 200 < n
  · have h50i : (200 : Int) < n := by omega
    go_enter Try.func3, Try.ntmps3
    go_wp2_with ((go_at_call 7; (with_reducible refine (known08 _).mono ?_); rintro e w9 ⟨rfl, hb9⟩))
    go_ret
    exact ⟨rfl, hb9⟩
  have h50i : ¬ (200 : Int) < n := by omega
  have hbn := below_new w (Obj.cells #[] 31)
  go_enter Try.func3, Try.ntmps3
  go_wp2_with (first
    | ((with_reducible refine at_append31 22 ?_); refine wpList_append_ords rfl _ _ rfl w.heap.size _ rfl (own_emptyT w _ _) ad n cap L HL.out rfl (HR.out.kept hbn) HZ.out (by omega) (by simp) ?_; intro v' w1 h6 h7) | (go_at_call 8; refine stop_at ?_))
  have hb1 : Below w.heap.size w w1 := hbn.grown h7 (by simp) (fun j e => by have e : w.heap.size = j := Option.some.inj e; omega)
  obtain ⟨al, cl, rfl, hRl, _, _, hzl⟩ := own_rows (c := 5) (fun j => (HL.out j).size) h6
  have c1 := clear_any sells Q al n cl L w1 HQ.out HL.out (rowsC_of_T9 hRl) hzl
  have HB1 := Lib.hid hb1
  have HRI := Lib.hid (rowsC_of_T9 hRl)
  clear hb1 h6 h7 hRl hzl hbn
  refine ⟨?_⟩
  refine c1.mono ?_
  rintro e w2 ⟨ho2, hb2⟩
  obtain ⟨d, p, v, m, hd, rfl, hown, hmn, e1, e2⟩ := clr_one ho2
  have HB2 := Lib.hid (below_then HB1.out hb2)
  have HRI := Lib.hid (HRI.out.kept hb2)
  have HO := Lib.hid hown
  have HNF := Lib.hid (fill_neq (m := m) HL.out hd (fun h => (e1 h).2) hmn)
  have c2 := rclear_any sells Q ad n cap L d w2 HQ.out HL.out (HR.out.kept HB2.out) hd
  have HE := Lib.hid (And.intro e1 e2)
  clear c1 ho2 hb2 hown hd e1 e2 HB1
  go_wp2_with (go_at_call 9; refine stop_at ?_)
  refine ⟨?_⟩
  refine c2.mono ?_
  rintro e w3 ⟨ho3, hb3⟩
  obtain ⟨v2, rfl, hown2⟩ := rclr_one ho3 HE.out.1 HE.out.2
  have HB3 := Lib.hid (below_then HB2.out hb3)
  have HRI := Lib.hid (HRI.out.kept hb3)
  obtain ⟨fa, fc, rfl, hF, _⟩ := own_rows (c := 3) (fun k => fill_size _ _ _ k) (own_below hb3 HO.out)
  obtain ⟨ga, gc, rfl, hG, _⟩ := own_rows (c := 3) (fun k => fill_size _ _ _ k) hown2
  have HF := Lib.hid (rowsC_of_T9 hF)
  have HG := Lib.hid (rowsC_of_T9 hG)
  clear c2 ho3 hb3 hown2 HE HB2 HO hF hG
  generalize clE sells Q L n = E at *
  generalize fillA Q L d = F at *
  go_wp2
  go_loopg [40] n (fun gh i wr => ∃ k : Nat, k ≤ n ∧ gh = n - k ∧ i = .int .i64 k ∧ Below w3.heap.size w3 wr)
  case atStart => exact ⟨0, by omega, by omega, rfl, Below.refl _ _⟩
  case round =>
    obtain ⟨k, hk, rfl, rfl, hb⟩ := hrel
    by_cases hlt : k < n
    · have hlti : (k : Int) < (n : Int) := by omega
      obtain ⟨g1, o1, A1, t1, f1, rfl, hg1, hs1, hx1⟩ := (HRI.out.kept hb) k hlt
      obtain ⟨g2, o2, A2, t2, f2, rfl, hg2, hs2, hx2⟩ := (HR.out.kept (below_then HB3.out hb)) k hlt
      have hneq := neq_ord (HL.out k)
      have HBX := Lib.hid hb
      clear hb
      have HX1 := Lib.hid hx1
      have HX2 := Lib.hid hx2
      clear hx1 hx2
      go_wp2
      refine wp_region_below (by kernel_rfl) (by kernel_rfl) ?_
      repeat (first | ((with_reducible apply q_skip); (case hw => rfl); (try simp only [Act.put, List.setIfInBounds_toArray, List.set_cons_zero, List.set_cons_succ])) | ((with_reducible refine at_qload 31 ?_); refine q_load_fr (by rfl) 31 _ rfl (g1) (o1 + k * 5) rfl _ (A1) _ _ 5 (hg1) Try.underlying31 rfl (by kernel_rfl) (hs1) (L k) (HX1.out) ?_; try simp only [Act.put, List.setIfInBounds_toArray, List.set_cons_zero, List.set_cons_succ]) | ((with_reducible refine at_qload 31 ?_); refine q_load_fr (by rfl) 31 _ rfl (g2) (o2 + k * 5) rfl _ (A2) _ _ 5 (hg2) Try.underlying31 rfl (by kernel_rfl) (hs2) (L k) (HX2.out) ?_; try simp only [Act.put, List.setIfInBounds_toArray, List.set_cons_zero, List.set_cons_succ]) | ((with_reducible apply q_val); (case hw => rfl); (case hv => intro wq hbq; go_simp; try rfl); (try simp only [Act.put, List.setIfInBounds_toArray, List.set_cons_zero, List.set_cons_succ])))
      refine q_nil ?_
      intro w4 hb4
      have HB4 := Lib.hid (below_then HBX.out hb4)
      go_wp2
      go_roundg (n - (k + 1))
      case measure => omega
      case rel => exact ⟨k + 1, by omega, rfl, by go_num, HB4.out⟩
    · obtain rfl : k = n := by omega
      have HBX := Lib.hid (below_then HB3.out hb)
      have cS := same8_any fa ga m fc gc F _ (HF.out.kept hb) (HG.out.kept hb) HNF.out (by omega)
      clear hb
      go_wp2_with (first | ((go_at_call 10; (with_reducible refine (cS).mono ?_); rintro e w5 ⟨rfl, hb5⟩; have HB5 := Lib.hid (below_then HBX.out hb5); clear hb5)) | (go_at_call 7; (with_reducible refine (known08 _).mono ?_); rintro e w9 ⟨rfl, hb9⟩))
      go_ret
      exact ⟨rfl, below_then HB5.out hb9⟩
end Go.Proofs.Ytoglcgijgckdaaa
