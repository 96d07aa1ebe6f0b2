/- NetPlays, walked: it returns true. Condition: what came in takes no more than the form's reach. -/
import Derived.Test.YtfgcjgabknoamaaPt28
import Derived.Test.YtfgcjgabknoamaaSm28
import Derived.Test.YtfgcjgabknoamaaTm28
import Derived.Test.YtfgcjgabknoamaaHr
import Derived.Test.YtfgcjgabknoamaaKnown28
namespace Go.Proofs.Ytfgcjgabknoamaa
set_option linter.unusedVariables false
set_option linter.unusedSimpArgs false
open Go.RowKit

def zo28 : Array Value := #[.int .i64 0, .int .i64 0, .int .i64 0, .int .i64 0, .slice none 0 0]
def rz28 : Array Value := #[.slice none 0 0, .int .u64 0]
theorem np_new {w1 w2 : World} {g : Nat} (hN : NetIs w2 g g 0 (fun _ => 0) (fun _ => 0) (fun _ => 0) (fun _ => .slice none 0 0) (fun _ => 0) (fun _ _ => 0)) (hb : Below w1.heap.size w1 w2) (hg : w1.heap.size ≤ g) :
    NP w1 (w2.alloc (.cells #[.slice none 0 0, .int .u64 0] 48)) g w2.heap.size ⟨0, 0, fun _ => 0, fun _ => 0, fun _ => 0, fun _ => 0, fun _ _ => 0⟩ := by
  have hN2 := net_ag (Ag' := agR 0 (fun _ => 0)) (hN.kept (below_new w2 (Obj.cells #[.slice none 0 0, .int .u64 0] 48))) (fun i hi => by omega)
  obtain ⟨v, h1, h2⟩ := hN2.row
  refine ⟨⟨_, ⟨⟨v, h1, own_weak h2 hg⟩, hN2.by_, hN2.sl, by omega, hN2.ag, hN2.lg, hN2.hk⟩⟩, ⟨fun _ => .slice none 0 0, .slice none 0 0, heap_alloc_new _ _, World.ownsRow_nil _ _ _ _, fun i (hi : i < 0) => by omega, fun i => ⟨_, _, _, rfl⟩, hb.size, fun i (hi : i < 0) => by omega, ⟨by show (0:Int) ≤ 0; omega, by show (0:Int) ≤ _; omega⟩, fun i (hi : i < 0) => by omega, by show 0 ≤ 2000; omega⟩, below_alloc hb _⟩
theorem own_x {w : World} {b n c : Nat} {a : Option Addr} {Z : Nat → Int} (h : w.ownsRow b 5 1 (.slice a n c) n (bl Z n)) (hb : b < w.heap.size) : ∃ x, b ≤ x ∧ x < w.heap.size ∧ ∀ q, (Value.slice a n c).ownBlock = some q → q = x := by
  cases hq : (Value.slice a n c).ownBlock with
  | none => exact ⟨b, Nat.le_refl _, hb, fun q e => by cases e⟩
  | some q => exact ⟨q, (h.lt q hq).1, (h.lt q hq).2, fun q2 e => by injection e with e; exact e.symm⟩
theorem own_nil {w : World} {b n c : Nat} {a : Option Addr} {Z : Nat → Int} (h : w.ownsRow b 5 1 (.slice a n c) n (bl Z n)) : a = none → n = 0 ∧ c = 0 := by
  obtain ⟨a2, c2, e, _, _, hz, _⟩ := own_bytes h
  injection e with e1 _ e3
  subst e1 e3
  exact hz
theorem kp_size {w w' : World} {b x : Nat} (_ : Kp w w') (hb : Below b w w') (hx : x < w.heap.size) : x < w'.heap.size := Nat.lt_of_lt_of_le hx hb.size
set_option maxRecDepth 100000 in
set_option maxHeartbeats 8000000 in
theorem plays28_walk (a : Option Addr) (n c : Nat) (O : Nat → OpD) (w : World) (hO : ∀ i, i < n → OkOp w (O i)) (hl : RowsC w 5 a n (fun i => o5 (O i))) (hnc : n ≤ c) (hc : c ≤ 9223372036854775807) :
    Calls Try.prog 5 #[.slice a n c] w fun e w' => e = .returned (.bool true) ∧ Below w.heap.size w w' := by
  have ct := tame_any a n c O w hO hl hnc hc
  have HL := Lib.hid hO
  have HR := Lib.hid hl
  clear hO hl
  go_enter Try.func5, Try.ntmps5
  go_wp2_with fail
  refine ct.mono ?_
  clear ct
  rintro e w1 ⟨⟨bt, rfl, ht⟩, hb1⟩
  cases bt with
  | false =>
    clear ht
    go_wp2_with ((go_at_call 7; (with_reducible refine (known28 _).mono ?_); rintro e w2 ⟨rfl, hb2⟩))
    go_ret
    exact ⟨rfl, below_then hb1 hb2⟩
  | true =>
    obtain ⟨hn300, hlen⟩ := ht rfl
    have HLE := Lib.hid hlen
    have HB1 := Lib.hid hb1
    clear ht hlen hb1
    go_wp2_with (first | (go_at_call 8; (with_reducible refine (new_net _).mono ?_); rintro e w2 ⟨rfl, hN, hb2⟩) | ((with_reducible refine at_build 48 ?_); refine wpList_build_named rfl 48 _ rfl (#[.slice none 0 0, .int .u64 0]) (by kernel_rfl) ?_))
    have HP0 := Lib.hid (np_new hN hb2 (Nat.le_refl _))
    clear hN hb2
    go_loopg [3, 5] n (fun gh v3 v5 wr => ∃ (i g : Nat) (m : MS), i ≤ n ∧ gh = n - i ∧ v3 = .pointer (some ⟨g, 0, none⟩) ∧ v5 = .int .i64 i ∧ m.now ≤ i ∧ NP w1 wr g w2.heap.size m)
    case atStart => exact ⟨0, _, _, by omega, by omega, rfl, rfl, by show (0:Int) ≤ _; omega, HP0.out⟩
    case round =>
      obtain ⟨i, g, m, hi, rfl, rfl, rfl, hnw, hp⟩ := hrel
      have HP := Lib.hid hp
      clear hp HP0
      generalize w2.heap.size = gw at *
      by_cases hlt : i < n
      · have hik : (i : Int) < n := by omega
        have HBW := Lib.hid (below_then HB1.out HP.out.be)
        obtain ⟨ga, off, A, t0, fr, rfl, hgA, hsA, hxA⟩ := (HR.out.kept HBW.out) i hlt
        have hxA2 : A.extract (off + i * 5) (off + i * 5 + 5) = o5 (O i) := hxA
        have hbn := below_new wr (Obj.cells (o5 (O i)) 50)
        have HO := Lib.hid (show Opn wr.heap.size (o5 (O i)) (wr.alloc (Obj.cells (o5 (O i)) 50)) from heap_alloc_new _ _)
        have HP1 := Lib.hid (HP.out.kept hbn)
        have HSZ := Lib.hid (show (o5 (O i)).size = 5 from rfl)
        have HAL := Lib.hid (o5_all (O i))
        have m0 : (o5 (O i))[0]? = some (.int .i64 (O i).kd) := rfl
        have m1 : (o5 (O i))[1]? = some (.int .i64 (O i).nn) := rfl
        have m2 : (o5 (O i))[2]? = some (.int .i64 (O i).f) := rfl
        have m3' : (o5 (O i))[3]? = some (.int .i64 (O i).t) := rfl
        have m4 : (o5 (O i))[4]? = some (.slice (O i).a (O i).n (O i).c) := rfl
        have HM3 := Lib.hid (show (o5 (O i)).extract 2 5 = m3 (O i).f (O i).t (.slice (O i).a (O i).n (O i).c) from rfl)
        have hln := HLE.out i hlt
        have HBY := Lib.hid (HL.out i hlt).byt
        have HHZ := Lib.hid (HL.out i hlt).hz
        have hco := cellF HO.out
        have HNW := Lib.hid hnw
        have HNB := Lib.hid (show m.now ≤ ((i + 1 : Nat) : Int) by omega)
        clear hbn HP hxA hnw
        generalize hB : o5 (O i) = B at *
        clear hB
        generalize (O i).kd = kd at *
        generalize (O i).nn = nn at *
        generalize (O i).f = fo at *
        generalize (O i).t = tto at *
        generalize (O i).a = ao at *
        generalize (O i).n = no at *
        generalize (O i).c = co at *
        generalize (O i).X = Yo at *
        generalize hw2 : wr.alloc (Obj.cells B 50) = w2 at *
        go_upto_region 11 with (first | ((with_reducible refine at_load 50 ?_); refine wpList_load_part rfl 50 _ rfl (ga) (off + i * 5) rfl _ (A) _ _ 5 (hgA) Try.underlying50 rfl (by kernel_rfl) (hsA) (B) (hxA2) ?_) | ((with_reducible refine at_alloc 50 ?_); refine wpList_alloc_named rfl 50 rfl (zo28) (by kernel_rfl) ?_) | ((with_reducible refine at_store 50 ?_); refine wpList_store_new rfl 50 _ _ rfl (B) _ _ _ rfl (by simp) rfl (by rw [HSZ.out]; kernel_rfl) (by rw [HSZ.out]; rfl) (HAL.out) ?_))
        clear hw2 hgA hsA hxA2
        generalize wr.heap.size = bo at *
        by_cases k0 : kd = 0
        · subst k0
          obtain ⟨r, m', hmn, CP, CR⟩ := both_send m fo tto no Yo
          have CP := Lib.hid CP
          have CR := Lib.hid CR
          rw [← hmn] at HNB
          go_upto_region 12 with fail
          refine wp_region_held (S := fun wt => Opn bo B wt) (by kernel_rfl) ?_
          change wpAnyH _ _ _ _ _ _ _ _ (World.drew _)
          obtain ⟨wy, hwy⟩ : ∃ wy, wy = w2.drew := ⟨_, rfl⟩
          have hby : Below w2.heap.size w2 wy := by rw [hwy]; exact Below.drew (Below.refl _ _)
          have HPY := Lib.hid (HP1.out.kept hby)
          have HS : Opn bo B wy := HO.out.kept hby
          have hYy := HBY.out.kept (below_then HB1.out HPY.out.be)
          rw [← hwy]
          clear hwy hby HP1 HO
          have HS0 := Lib.hid HS
          (refine wpAnyH_take (i := 0) (v := ?_) rfl (by kernel_rfl) (by kernel_rfl) (by kernel_rfl) (fun _ _ _ h => h) (Or.inl ⟨by rfl, ?ht_0⟩) HS ?_); (case ht_0 => (intro wt hS; go_simp; try with_reducible rfl)); (try simp only [Act.put, List.getElem_toArray, List.getElem_cons_zero, List.getElem_cons_succ, List.setIfInBounds_toArray, List.set_cons_zero, List.set_cons_succ]); (refine wpAnyH_take (i := 1) (v := ?_) rfl (by kernel_rfl) (by kernel_rfl) (by kernel_rfl) (fun _ _ _ h => h) (Or.inl ⟨by rfl, ?ht_1⟩) HS ?_); (case ht_1 => (intro wt hS; go_simp; try with_reducible rfl)); (try simp only [Act.put, List.getElem_toArray, List.getElem_cons_zero, List.getElem_cons_succ, List.setIfInBounds_toArray, List.set_cons_zero, List.set_cons_succ]); (refine wpAnyH_take (i := 3) (v := ?_) rfl (by kernel_rfl) (by kernel_rfl) (by kernel_rfl) (fun _ _ _ h => h) (Or.inl ⟨by rfl, ?ht_3⟩) HS ?_); (case ht_3 => (intro wt hS; go_simp; try with_reducible rfl)); (try simp only [Act.put, List.getElem_toArray, List.getElem_cons_zero, List.getElem_cons_succ, List.setIfInBounds_toArray, List.set_cons_zero, List.set_cons_succ]); (refine wpAnyH_take (i := 4) (v := ?_) rfl (by kernel_rfl) (by kernel_rfl) (by kernel_rfl) (fun _ _ _ h => h) (Or.inl ⟨by rfl, ?ht_4⟩) HS ?_); (case ht_4 => (intro wt hS; go_simp; try with_reducible rfl)); (try simp only [Act.put, List.getElem_toArray, List.getElem_cons_zero, List.getElem_cons_succ, List.setIfInBounds_toArray, List.set_cons_zero, List.set_cons_succ]); (refine wpAnyH_take (i := 7) (v := ?_) rfl (by kernel_rfl) (by kernel_rfl) (by kernel_rfl) (fun _ _ _ h => h) (Or.inl ⟨by rfl, ?ht_7⟩) HS ?_); (case ht_7 => (intro wt hS; go_simp; try with_reducible rfl)); (try simp only [Act.put, List.getElem_toArray, List.getElem_cons_zero, List.getElem_cons_succ, List.setIfInBounds_toArray, List.set_cons_zero, List.set_cons_succ]); (refine wpAnyH_take (i := 8) (v := ?_) rfl (by kernel_rfl) (by kernel_rfl) (by kernel_rfl) (fun _ _ _ h => h) (Or.inl ⟨by rfl, ?ht_8⟩) HS ?_); (case ht_8 => (intro wt hS; go_simp; try with_reducible rfl)); (try simp only [Act.put, List.getElem_toArray, List.getElem_cons_zero, List.getElem_cons_succ, List.setIfInBounds_toArray, List.set_cons_zero, List.set_cons_succ])
          (refine wpAnyH_take (i := 2) (v := .int .i64 fo) rfl (by kernel_rfl) (by kernel_rfl) (by kernel_rfl) (fun _ _ _ h => h) (Or.inl ⟨by rfl, ?ht_2⟩) HS ?_); (case ht_2 => (intro wt hS; (have hcq := cellF hS); go_simp; try with_reducible rfl)); (try simp only [Act.put, List.getElem_toArray, List.getElem_cons_zero, List.getElem_cons_succ, List.setIfInBounds_toArray, List.set_cons_zero, List.set_cons_succ])
          (refine wpAnyH_take (i := 5) (v := .int .i64 tto) rfl (by kernel_rfl) (by kernel_rfl) (by kernel_rfl) (fun _ _ _ h => h) (Or.inl ⟨by rfl, ?ht_5⟩) HS ?_); (case ht_5 => (intro wt hS; (have hcq := cellF hS); go_simp; try with_reducible rfl)); (try simp only [Act.put, List.getElem_toArray, List.getElem_cons_zero, List.getElem_cons_succ, List.setIfInBounds_toArray, List.set_cons_zero, List.set_cons_succ])
          (refine wpAnyH_take (i := 9) (v := .slice ao no co) rfl (by kernel_rfl) (by kernel_rfl) (by kernel_rfl) (fun _ _ _ h => h) (Or.inl ⟨by rfl, ?ht_9⟩) HS ?_); (case ht_9 => (intro wt hS; (have hcq := cellF hS); go_simp; try with_reducible rfl)); (try simp only [Act.put, List.getElem_toArray, List.getElem_cons_zero, List.getElem_cons_succ, List.setIfInBounds_toArray, List.set_cons_zero, List.set_cons_succ])
          refine wpAnyH_ready (rs := [6, 12]) (by kernel_rfl) (by decide) ?_
          refine AllReadyH.cons rfl (fun K' hK => ?_) (AllReadyH.cons rfl (fun K' hK => ?_) AllReadyH.nil)
          · rw [if_pos (by rfl)]
            go_simp
            refine hK.out _ _ (heap_up HS) (fun HS => ?_)
            clear hK K'
            (try simp only [Act.put, List.getElem_toArray, List.getElem_cons_zero, List.getElem_cons_succ, List.setIfInBounds_toArray, List.set_cons_zero, List.set_cons_succ])
            refine wpAnyH_ready (rs := [10, 12]) (by kernel_rfl) (by decide) ?_
            refine AllReadyH.cons rfl (fun K' hK => ?_) (AllReadyH.cons rfl (fun K' hK => ?_) AllReadyH.nil)
            · rw [if_pos (by rfl)]
              refine op_append_byt _ _ rfl wy.heap.size _ rfl (own_empty_p wy _ _) ao no co Yo rfl (hYy.kept (below_new wy _)) HHZ.out (by omega) (by simp) (fun vb wb hob hgb => ?_)
              have hbb : Below wy.heap.size wy wb := (below_new wy _).grown hgb (by simp) (fun j e => by have e : wy.heap.size = j := Option.some.inj e; omega)
              have hbs := hgb.size
              rw [show (wy.alloc (Obj.cells #[] 5)).heap.size = wy.heap.size + 1 by simp] at hbs
              refine hK.out _ _ (HS0.out.kept hbb) (fun HS => ?_)
              clear hK K'
              (try simp only [Act.put, List.getElem_toArray, List.getElem_cons_zero, List.getElem_cons_succ, List.setIfInBounds_toArray, List.set_cons_zero, List.set_cons_succ])
              obtain ⟨sa, sc, rfl⟩ := own_form hob
              (refine wpAnyH_take (i := 11) (v := .agg (m3 fo tto (.slice sa no sc))) rfl (by kernel_rfl) (by kernel_rfl) (by kernel_rfl) (fun _ _ _ h => h) (Or.inl ⟨by rfl, ?ht_11⟩) HS ?_); (case ht_11 => (intro wt hS; exact exec_build 24 _ rfl _ (by kernel_rfl))); (try simp only [Act.put, List.getElem_toArray, List.getElem_cons_zero, List.getElem_cons_succ, List.setIfInBounds_toArray, List.set_cons_zero, List.set_cons_succ])
              (refine wpAnyH_ready (rs := [12]) (by kernel_rfl) (by decide) ?_); (refine AllReadyH.cons rfl (fun K' hK => ?_) AllReadyH.nil); (rw [if_pos (by rfl)])
              refine op_alloc_named 24 rfl mz (by kernel_rfl) (hK.out _ _ (heap_up HS) (fun HS => ?_))
              clear hK K'
              (try simp only [Act.put, List.getElem_toArray, List.getElem_cons_zero, List.getElem_cons_succ, List.setIfInBounds_toArray, List.set_cons_zero, List.set_cons_succ])
              have hbin := heap_alloc_new wb (Obj.cells mz 24)
              have hob := hob.alloc (Obj.cells mz 24)
              have hbE := below_alloc hbb (Obj.cells mz 24)
              have hEs : wy.heap.size < (wb.alloc (Obj.cells mz 24)).heap.size := by simp; omega
              obtain ⟨wE, hwE⟩ : ∃ wE, wE = wb.alloc (Obj.cells mz 24) := ⟨_, rfl⟩
              obtain ⟨bin, hbi⟩ : ∃ bin, bin = wb.heap.size := ⟨_, rfl⟩
              rw [← hwE] at hbin hob hbE hEs HS ⊢
              rw [← hbi] at hbin ⊢
              have hbiny : wy.heap.size ≤ bin := by omega
              clear hwE hbi hgb hbb hbs
              obtain ⟨b8, hb8⟩ : ∃ b8, b8 = wy.heap.size := ⟨_, rfl⟩
              rw [← hb8] at hob
              (refine wpAnyH_ready (rs := [13]) (by kernel_rfl) (by decide) ?_); (refine AllReadyH.cons rfl (fun K' hK => ?_) AllReadyH.nil); (rw [if_pos (by rfl)])
              refine op_store_over' 24 _ _ rfl bin (m3 fo tto (.slice sa no sc)) rfl rfl _ mz hbin (by kernel_rfl) rfl m3_all (fun w5 hc5 ho5 hb5' => ?_)
              have hobF := own_other hob ho5 (fun e => by
                obtain ⟨A9, f9, h9⟩ := own_tag hob bin e.symm
                rw [hbin] at h9; injection h9 with h9; injection h9 with _ h9; exact absurd h9 (by decide))
              have hbF : Below wy.heap.size wy w5 := hbE.trans (hb5' _ hbiny)
              have hs5 := (hb5' 0 (Nat.zero_le _)).size
              have hO5 := HS0.out.kept hbF
              refine hK.out _ _ hO5 (fun HS => ?_)
              clear hK K' HS
              obtain ⟨x, hx0, hx1, hxq⟩ := own_x hobF (by omega)
              have HXO := Lib.hid hxq
              clear hxq
              have HX := Lib.hid ((HPY.out.x (show wy.heap.size ≤ x by omega)).kept hbF)
              have hxw : w1.heap.size ≤ x := by have := HPY.out.be.size; omega
              clear hob hbin hbE ho5 hb5' hbF hs5 HPY HS0
              refine wpAnyH_done (by kernel_rfl) ?_ _
              go_upto_region 13 with fail
              refine wp_region_R (S := fun wt => (Opn bo B wt ∧ wt.heap[bin]? = some (.cells (m3 fo tto (.slice sa no sc)) 24 (0, 0))) ∧ wt.ownsRow b8 5 1 (.slice sa no sc) no (bl Yo no)) (by kernel_rfl) ⟨⟨hO5, hc5⟩, hobF⟩ ?_
              obtain ⟨wq, hwq⟩ : ∃ wq, wq = w5.drew := ⟨_, rfl⟩
              have HBQ : Below w5.heap.size w5 wq := by rw [hwq]; exact Below.drew (Below.refl _ _)
              rw [← hwq]
              have HXQ := Lib.hid (HX.out.kept HBQ)
              have hxq1 : x < wq.heap.size := by have := HBQ.size; omega
              clear hwq HBQ HX
              have HZI := Lib.hid (own_nil hobF)
              clear hO5 hc5 hobF
              (refine wpAnyR_take (i := 0) (v := ?_) rfl (by kernel_rfl) (by kernel_rfl) (by kernel_rfl) (fun _ _ _ h => h) (give_val (by rfl) ?rt_0) ?_); (case rt_0 => (intro wt hS; go_simp; try with_reducible rfl)); (try simp only [Act.put, List.getElem_toArray, List.getElem_cons_zero, List.getElem_cons_succ, List.setIfInBounds_toArray, List.set_cons_zero, List.set_cons_succ])
              (refine wpAnyR_take (i := 1) (v := .agg (m3 fo tto (.slice sa no sc))) rfl (by kernel_rfl) (by kernel_rfl) (by kernel_rfl) (fun _ _ _ h => h) (give_val (by rfl) ?rt_1) ?_); (case rt_1 => (intro wt hS; exact exec_load_part 24 _ rfl bin 0 (by rfl) _ _ _ _ 3 hS.1.2 Try.underlying24 rfl (by kernel_rfl) (Nat.le_refl 3) _ rfl)); (try simp only [Act.put, List.getElem_toArray, List.getElem_cons_zero, List.getElem_cons_succ, List.setIfInBounds_toArray, List.set_cons_zero, List.set_cons_succ])
              (refine wpAnyR_take (i := 3) (v := ?_) rfl (by kernel_rfl) (by kernel_rfl) (by kernel_rfl) (fun _ _ _ h => h) (give_val (by rfl) ?rt_3) ?_); (case rt_3 => (intro wt hS; go_simp; try with_reducible rfl)); (try simp only [Act.put, List.getElem_toArray, List.getElem_cons_zero, List.getElem_cons_succ, List.setIfInBounds_toArray, List.set_cons_zero, List.set_cons_succ]); (refine wpAnyR_take (i := 4) (v := ?_) rfl (by kernel_rfl) (by kernel_rfl) (by kernel_rfl) (fun _ _ _ h => h) (give_val (by rfl) ?rt_4) ?_); (case rt_4 => (intro wt hS; go_simp; try with_reducible rfl)); (try simp only [Act.put, List.getElem_toArray, List.getElem_cons_zero, List.getElem_cons_succ, List.setIfInBounds_toArray, List.set_cons_zero, List.set_cons_succ])
              (refine wpAnyR_take (i := 5) (v := .agg (m3 fo tto (.slice ao no co))) rfl (by kernel_rfl) (by kernel_rfl) (by kernel_rfl) (fun _ _ _ h => h) (give_val (by rfl) ?rt_5) ?_); (case rt_5 => (intro wt hS; exact exec_load_part 24 _ rfl bo 2 (by rfl) _ B _ _ 3 hS.1.1 Try.underlying24 rfl (by kernel_rfl) (by rw [HSZ.out]; omega) _ HM3.out)); (try simp only [Act.put, List.getElem_toArray, List.getElem_cons_zero, List.getElem_cons_succ, List.setIfInBounds_toArray, List.set_cons_zero, List.set_cons_succ])
              (refine wpAnyR_ready (rs := [2]) (by kernel_rfl) (by decide) (fun wd hbd HS => ?_)); refine (AllR.cons rfl (fun K' hK => ?_) AllR.nil)
              rw [if_pos (by rfl)]
              have HXD := Lib.hid (HXQ.out.kept hbd)
              have HSD := Lib.hid HS
              have hxd : x < wd.heap.size := by have := hbd.size; omega
              clear HXQ hbd HS
              unfold Oper.wp
              go_simp
              refine (CP.out _ _ _ x _ _ HXD.out.c hxd (own_bytes HSD.out.2).byt HZI.out).mono ?_
              rintro e w3 ⟨rfl, hcx, hbx, hkp⟩
              have HX3 := Lib.hid (HXD.out.go1 hcx hbx hkp)
              have hs3 := hbx.size
              refine hK.out _ _ ⟨⟨hkp _ _ _ _ HSD.out.1.1 (by decide) (by decide), hkp _ _ _ _ HSD.out.1.2 (by decide) (by decide)⟩, own_same HSD.out.2 (fun q A _ hq => hkp _ _ _ _ hq (by decide) (by decide))⟩ ?_
              have hx3 : x < w3.heap.size := by
                obtain ⟨_, hN9, _⟩ := hcx
                have := kp_size hkp hbx hxd
                exact this
              clear hK K' hcx hbx hkp HSD HXD hs3
              (try simp only [Act.put, List.getElem_toArray, List.getElem_cons_zero, List.getElem_cons_succ, List.setIfInBounds_toArray, List.set_cons_zero, List.set_cons_succ])
              (refine wpAnyR_ready (rs := [6]) (by kernel_rfl) (by decide) (fun wf hbf HS2 => ?_)); refine (AllR.cons rfl (fun K' hK => ?_) AllR.nil)
              rw [if_pos (by rfl)]
              have HXF := Lib.hid (HX3.out.kept hbf)
              have HSF := Lib.hid HS2
              have hxf : x < wf.heap.size := by have := hbf.size; omega
              clear HX3 hbf HS2
              unfold Oper.wp
              go_simp
              refine (CR.out _ _ _ x _ _ HXF.out.d hxf (HBY.out.kept (below_then HB1.out HXF.out.be)) HHZ.out).mono ?_
              rintro e w4 ⟨rfl, hdx, hbx, hkd⟩
              have HX4 := Lib.hid (HXF.out.go2 hdx hbx hkd)
              have hst := HXF.out.stay hkd
              refine hK.out _ _ ⟨⟨hst _ _ _ _ HSF.out.1.1 (by decide), hst _ _ _ _ HSF.out.1.2 (by decide)⟩, own_same HSF.out.2 (fun q A _ hq => hst _ _ _ _ hq (by decide))⟩ ?_
              clear hK K' hdx hbx hkd hst HSF HXF
              (try simp only [Act.put, List.getElem_toArray, List.getElem_cons_zero, List.getElem_cons_succ, List.setIfInBounds_toArray, List.set_cons_zero, List.set_cons_succ])
              (refine wpAnyR_take (i := 7) (v := ?_) rfl (by kernel_rfl) (by kernel_rfl) (by kernel_rfl) (fun _ _ _ h => h) (give_val (by rfl) ?rt_7) ?_); (case rt_7 => (intro wt hS; go_simp; try with_reducible rfl)); (try simp only [Act.put, List.getElem_toArray, List.getElem_cons_zero, List.getElem_cons_succ, List.setIfInBounds_toArray, List.set_cons_zero, List.set_cons_succ]); (refine wpAnyR_take (i := 8) (v := ?_) rfl (by kernel_rfl) (by kernel_rfl) (by kernel_rfl) (fun _ _ _ h => h) (give_val (by rfl) ?rt_8) ?_); (case rt_8 => (intro wt hS; go_simp; try with_reducible rfl)); (try simp only [Act.put, List.getElem_toArray, List.getElem_cons_zero, List.getElem_cons_succ, List.setIfInBounds_toArray, List.set_cons_zero, List.set_cons_succ])
              refine wpAnyR_done (by kernel_rfl) (fun wz hbz HS => ?_) _
              have HX5 := Lib.hid (HX4.out.kept hbz)
              have HSO := Lib.hid HS.2
              have HSM := Lib.hid HS.1.2
              clear HX4 hbz HS
              have M2 : (m3 fo tto (.slice sa no sc))[2]? = some (.slice sa no sc) := rfl
              generalize m3 fo tto (.slice sa no sc) = M at *
              go_wp2_with fail
              go_loopg [9] no (fun gh v9 wx => ∃ (l : Nat) (Z : Nat → Int), l ≤ no ∧ gh = no - l ∧ v9 = .int .i64 l ∧ wx.ownsRow b8 5 1 (.slice sa no sc) no (bl Z no) ∧ wx.heap[bin]? = some (.cells M 24 (0, 0)) ∧ NX w1 wx g gw x m' m')
              case atStart => exact ⟨0, _, by omega, by omega, rfl, HSO.out, HSM.out, HX5.out⟩
              case round =>
                obtain ⟨l, Z, hl, rfl, rfl, ho, hm, hxx⟩ := hrel
                clear HSO HSM HX5
                have HM := Lib.hid hm
                have HXX := Lib.hid hxx
                have cm := cellF hm
                clear hm hxx
                by_cases hln : l < no
                · have hlni : (l : Int) < no := by omega
                  obtain ⟨g9, cur, rfl, hbg, hg9, hcl⟩ := own_u8 ho hln
                  obtain rfl : g9 = x := HXO.out g9 rfl
                  have hne : bin ≠ g9 := fun e => by
                    subst e
                    have h := HM.out
                    rw [hg9] at h; injection h with h; injection h with _ h; exact absurd h (by decide)
                  have c9 := cellF hg9
                  have f9 := (cells_of hg9).2.1
                  have HST := Lib.hid (fun y => (ho.stored l (.int .u8 y)).1)
                  have HG9 := Lib.hid hg9
                  clear ho hg9
                  generalize hzl : Z l = z at *
                  go_wp2_with fail
                  go_roundg (no - (l + 1))
                  case measure => omega
                  case rel => exact ⟨l + 1, fun i => if i = l then IntKind.u8.wrap (z + 1) else Z i, by omega, rfl, by go_num, by rw [← bl_set]; exact HST.out _, heap_set_other HM.out hne, HXX.out.over HG9.out (fun i hi => heap_setCell_other _ ⟨g9, l, none⟩ i _ hi) (below_set (Below.refl _ _) hxw)⟩
                · obtain rfl : l = no := by omega
                  clear ho
                  have HPN := Lib.hid HXX.out.np
                  clear HXX
                  go_wp2_with ((go_at_call 25; (with_reducible refine (same28_all HPN.out.c HPN.out.d).mono ?_); rintro e w9 ⟨rfl, hb9⟩))
                  have HPZ := Lib.hid (HPN.out.kept hb9)
                  clear HPN hb9
                  go_roundg (n - (i + 1))
                  case measure => omega
                  case rel => exact ⟨i + 1, _, _, by omega, rfl, rfl, by go_num, HNB.out, HPZ.out⟩
            · rw [if_pos (by rfl)]
              refine op_alloc_named 24 rfl mz (by kernel_rfl) (hK.out _ _ (heap_up HS) (fun HS => ?_))
              clear hK K'
              (try simp only [Act.put, List.getElem_toArray, List.getElem_cons_zero, List.getElem_cons_succ, List.setIfInBounds_toArray, List.set_cons_zero, List.set_cons_succ])
              obtain ⟨bin, hbi⟩ : ∃ bin, bin = (wy.alloc (Obj.cells #[] 5)).heap.size := ⟨_, rfl⟩
              have hbin0 : ((wy.alloc (Obj.cells #[] 5)).alloc (Obj.cells mz 24)).heap[bin]? = some (.cells mz 24 (0, 0)) := by rw [hbi]; exact heap_alloc_new _ _
              have hbie : bin = wy.heap.size + 1 := by rw [hbi]; simp
              rw [← hbi]
              clear hbi
              (refine wpAnyH_ready (rs := [10]) (by kernel_rfl) (by decide) ?_); (refine AllReadyH.cons rfl (fun K' hK => ?_) AllReadyH.nil); (rw [if_pos (by rfl)])
              refine op_append_byt _ _ rfl wy.heap.size _ rfl ((own_empty_p wy _ _).alloc _) ao no co Yo rfl (hYy.kept (below_alloc (below_new wy _) _)) HHZ.out (by omega) (by simp; omega) (fun vb wE hob hgb => ?_)
              have hbE : Below wy.heap.size wy wE := (below_alloc (below_new wy _) _).grown hgb (by simp; omega) (fun j e => by have e : wy.heap.size = j := Option.some.inj e; omega)
              have hbin := (hgb.block bin (by simp; omega) (fun e => by injection e with e; have e : bin = wy.heap.size := e; omega)).trans hbin0
              have hEs := hgb.size
              rw [show ((wy.alloc (Obj.cells #[] 5)).alloc (Obj.cells mz 24)).heap.size = wy.heap.size + 2 by simp] at hEs
              refine hK.out _ _ (HS0.out.kept hbE) (fun HS => ?_)
              clear hK K' hbin0 hgb
              (try simp only [Act.put, List.getElem_toArray, List.getElem_cons_zero, List.getElem_cons_succ, List.setIfInBounds_toArray, List.set_cons_zero, List.set_cons_succ])
              obtain ⟨sa, sc, rfl⟩ := own_form hob
              (refine wpAnyH_take (i := 11) (v := .agg (m3 fo tto (.slice sa no sc))) rfl (by kernel_rfl) (by kernel_rfl) (by kernel_rfl) (fun _ _ _ h => h) (Or.inl ⟨by rfl, ?ht_11⟩) HS ?_); (case ht_11 => (intro wt hS; exact exec_build 24 _ rfl _ (by kernel_rfl))); (try simp only [Act.put, List.getElem_toArray, List.getElem_cons_zero, List.getElem_cons_succ, List.setIfInBounds_toArray, List.set_cons_zero, List.set_cons_succ])
              have hbiny : wy.heap.size ≤ bin := by omega
              clear hbie
              obtain ⟨b8, hb8⟩ : ∃ b8, b8 = wy.heap.size := ⟨_, rfl⟩
              rw [← hb8] at hob
              (refine wpAnyH_ready (rs := [13]) (by kernel_rfl) (by decide) ?_); (refine AllReadyH.cons rfl (fun K' hK => ?_) AllReadyH.nil); (rw [if_pos (by rfl)])
              refine op_store_over' 24 _ _ rfl bin (m3 fo tto (.slice sa no sc)) rfl rfl _ mz hbin (by kernel_rfl) rfl m3_all (fun w5 hc5 ho5 hb5' => ?_)
              have hobF := own_other hob ho5 (fun e => by
                obtain ⟨A9, f9, h9⟩ := own_tag hob bin e.symm
                rw [hbin] at h9; injection h9 with h9; injection h9 with _ h9; exact absurd h9 (by decide))
              have hbF : Below wy.heap.size wy w5 := hbE.trans (hb5' _ hbiny)
              have hs5 := (hb5' 0 (Nat.zero_le _)).size
              have hO5 := HS0.out.kept hbF
              refine hK.out _ _ hO5 (fun HS => ?_)
              clear hK K' HS
              obtain ⟨x, hx0, hx1, hxq⟩ := own_x hobF (by omega)
              have HXO := Lib.hid hxq
              clear hxq
              have HX := Lib.hid ((HPY.out.x (show wy.heap.size ≤ x by omega)).kept hbF)
              have hxw : w1.heap.size ≤ x := by have := HPY.out.be.size; omega
              clear hob hbin hbE ho5 hb5' hbF hs5 HPY HS0
              refine wpAnyH_done (by kernel_rfl) ?_ _
              go_upto_region 13 with fail
              refine wp_region_R (S := fun wt => (Opn bo B wt ∧ wt.heap[bin]? = some (.cells (m3 fo tto (.slice sa no sc)) 24 (0, 0))) ∧ wt.ownsRow b8 5 1 (.slice sa no sc) no (bl Yo no)) (by kernel_rfl) ⟨⟨hO5, hc5⟩, hobF⟩ ?_
              obtain ⟨wq, hwq⟩ : ∃ wq, wq = w5.drew := ⟨_, rfl⟩
              have HBQ : Below w5.heap.size w5 wq := by rw [hwq]; exact Below.drew (Below.refl _ _)
              rw [← hwq]
              have HXQ := Lib.hid (HX.out.kept HBQ)
              have hxq1 : x < wq.heap.size := by have := HBQ.size; omega
              clear hwq HBQ HX
              have HZI := Lib.hid (own_nil hobF)
              clear hO5 hc5 hobF
              (refine wpAnyR_take (i := 0) (v := ?_) rfl (by kernel_rfl) (by kernel_rfl) (by kernel_rfl) (fun _ _ _ h => h) (give_val (by rfl) ?rt_0) ?_); (case rt_0 => (intro wt hS; go_simp; try with_reducible rfl)); (try simp only [Act.put, List.getElem_toArray, List.getElem_cons_zero, List.getElem_cons_succ, List.setIfInBounds_toArray, List.set_cons_zero, List.set_cons_succ])
              (refine wpAnyR_take (i := 1) (v := .agg (m3 fo tto (.slice sa no sc))) rfl (by kernel_rfl) (by kernel_rfl) (by kernel_rfl) (fun _ _ _ h => h) (give_val (by rfl) ?rt_1) ?_); (case rt_1 => (intro wt hS; exact exec_load_part 24 _ rfl bin 0 (by rfl) _ _ _ _ 3 hS.1.2 Try.underlying24 rfl (by kernel_rfl) (Nat.le_refl 3) _ rfl)); (try simp only [Act.put, List.getElem_toArray, List.getElem_cons_zero, List.getElem_cons_succ, List.setIfInBounds_toArray, List.set_cons_zero, List.set_cons_succ])
              (refine wpAnyR_take (i := 3) (v := ?_) rfl (by kernel_rfl) (by kernel_rfl) (by kernel_rfl) (fun _ _ _ h => h) (give_val (by rfl) ?rt_3) ?_); (case rt_3 => (intro wt hS; go_simp; try with_reducible rfl)); (try simp only [Act.put, List.getElem_toArray, List.getElem_cons_zero, List.getElem_cons_succ, List.setIfInBounds_toArray, List.set_cons_zero, List.set_cons_succ]); (refine wpAnyR_take (i := 4) (v := ?_) rfl (by kernel_rfl) (by kernel_rfl) (by kernel_rfl) (fun _ _ _ h => h) (give_val (by rfl) ?rt_4) ?_); (case rt_4 => (intro wt hS; go_simp; try with_reducible rfl)); (try simp only [Act.put, List.getElem_toArray, List.getElem_cons_zero, List.getElem_cons_succ, List.setIfInBounds_toArray, List.set_cons_zero, List.set_cons_succ])
              (refine wpAnyR_take (i := 5) (v := .agg (m3 fo tto (.slice ao no co))) rfl (by kernel_rfl) (by kernel_rfl) (by kernel_rfl) (fun _ _ _ h => h) (give_val (by rfl) ?rt_5) ?_); (case rt_5 => (intro wt hS; exact exec_load_part 24 _ rfl bo 2 (by rfl) _ B _ _ 3 hS.1.1 Try.underlying24 rfl (by kernel_rfl) (by rw [HSZ.out]; omega) _ HM3.out)); (try simp only [Act.put, List.getElem_toArray, List.getElem_cons_zero, List.getElem_cons_succ, List.setIfInBounds_toArray, List.set_cons_zero, List.set_cons_succ])
              (refine wpAnyR_ready (rs := [2]) (by kernel_rfl) (by decide) (fun wd hbd HS => ?_)); refine (AllR.cons rfl (fun K' hK => ?_) AllR.nil)
              rw [if_pos (by rfl)]
              have HXD := Lib.hid (HXQ.out.kept hbd)
              have HSD := Lib.hid HS
              have hxd : x < wd.heap.size := by have := hbd.size; omega
              clear HXQ hbd HS
              unfold Oper.wp
              go_simp
              refine (CP.out _ _ _ x _ _ HXD.out.c hxd (own_bytes HSD.out.2).byt HZI.out).mono ?_
              rintro e w3 ⟨rfl, hcx, hbx, hkp⟩
              have HX3 := Lib.hid (HXD.out.go1 hcx hbx hkp)
              have hs3 := hbx.size
              refine hK.out _ _ ⟨⟨hkp _ _ _ _ HSD.out.1.1 (by decide) (by decide), hkp _ _ _ _ HSD.out.1.2 (by decide) (by decide)⟩, own_same HSD.out.2 (fun q A _ hq => hkp _ _ _ _ hq (by decide) (by decide))⟩ ?_
              have hx3 : x < w3.heap.size := by
                obtain ⟨_, hN9, _⟩ := hcx
                have := kp_size hkp hbx hxd
                exact this
              clear hK K' hcx hbx hkp HSD HXD hs3
              (try simp only [Act.put, List.getElem_toArray, List.getElem_cons_zero, List.getElem_cons_succ, List.setIfInBounds_toArray, List.set_cons_zero, List.set_cons_succ])
              (refine wpAnyR_ready (rs := [6]) (by kernel_rfl) (by decide) (fun wf hbf HS2 => ?_)); refine (AllR.cons rfl (fun K' hK => ?_) AllR.nil)
              rw [if_pos (by rfl)]
              have HXF := Lib.hid (HX3.out.kept hbf)
              have HSF := Lib.hid HS2
              have hxf : x < wf.heap.size := by have := hbf.size; omega
              clear HX3 hbf HS2
              unfold Oper.wp
              go_simp
              refine (CR.out _ _ _ x _ _ HXF.out.d hxf (HBY.out.kept (below_then HB1.out HXF.out.be)) HHZ.out).mono ?_
              rintro e w4 ⟨rfl, hdx, hbx, hkd⟩
              have HX4 := Lib.hid (HXF.out.go2 hdx hbx hkd)
              have hst := HXF.out.stay hkd
              refine hK.out _ _ ⟨⟨hst _ _ _ _ HSF.out.1.1 (by decide), hst _ _ _ _ HSF.out.1.2 (by decide)⟩, own_same HSF.out.2 (fun q A _ hq => hst _ _ _ _ hq (by decide))⟩ ?_
              clear hK K' hdx hbx hkd hst HSF HXF
              (try simp only [Act.put, List.getElem_toArray, List.getElem_cons_zero, List.getElem_cons_succ, List.setIfInBounds_toArray, List.set_cons_zero, List.set_cons_succ])
              (refine wpAnyR_take (i := 7) (v := ?_) rfl (by kernel_rfl) (by kernel_rfl) (by kernel_rfl) (fun _ _ _ h => h) (give_val (by rfl) ?rt_7) ?_); (case rt_7 => (intro wt hS; go_simp; try with_reducible rfl)); (try simp only [Act.put, List.getElem_toArray, List.getElem_cons_zero, List.getElem_cons_succ, List.setIfInBounds_toArray, List.set_cons_zero, List.set_cons_succ]); (refine wpAnyR_take (i := 8) (v := ?_) rfl (by kernel_rfl) (by kernel_rfl) (by kernel_rfl) (fun _ _ _ h => h) (give_val (by rfl) ?rt_8) ?_); (case rt_8 => (intro wt hS; go_simp; try with_reducible rfl)); (try simp only [Act.put, List.getElem_toArray, List.getElem_cons_zero, List.getElem_cons_succ, List.setIfInBounds_toArray, List.set_cons_zero, List.set_cons_succ])
              refine wpAnyR_done (by kernel_rfl) (fun wz hbz HS => ?_) _
              have HX5 := Lib.hid (HX4.out.kept hbz)
              have HSO := Lib.hid HS.2
              have HSM := Lib.hid HS.1.2
              clear HX4 hbz HS
              have M2 : (m3 fo tto (.slice sa no sc))[2]? = some (.slice sa no sc) := rfl
              generalize m3 fo tto (.slice sa no sc) = M at *
              go_wp2_with fail
              go_loopg [9] no (fun gh v9 wx => ∃ (l : Nat) (Z : Nat → Int), l ≤ no ∧ gh = no - l ∧ v9 = .int .i64 l ∧ wx.ownsRow b8 5 1 (.slice sa no sc) no (bl Z no) ∧ wx.heap[bin]? = some (.cells M 24 (0, 0)) ∧ NX w1 wx g gw x m' m')
              case atStart => exact ⟨0, _, by omega, by omega, rfl, HSO.out, HSM.out, HX5.out⟩
              case round =>
                obtain ⟨l, Z, hl, rfl, rfl, ho, hm, hxx⟩ := hrel
                clear HSO HSM HX5
                have HM := Lib.hid hm
                have HXX := Lib.hid hxx
                have cm := cellF hm
                clear hm hxx
                by_cases hln : l < no
                · have hlni : (l : Int) < no := by omega
                  obtain ⟨g9, cur, rfl, hbg, hg9, hcl⟩ := own_u8 ho hln
                  obtain rfl : g9 = x := HXO.out g9 rfl
                  have hne : bin ≠ g9 := fun e => by
                    subst e
                    have h := HM.out
                    rw [hg9] at h; injection h with h; injection h with _ h; exact absurd h (by decide)
                  have c9 := cellF hg9
                  have f9 := (cells_of hg9).2.1
                  have HST := Lib.hid (fun y => (ho.stored l (.int .u8 y)).1)
                  have HG9 := Lib.hid hg9
                  clear ho hg9
                  generalize hzl : Z l = z at *
                  go_wp2_with fail
                  go_roundg (no - (l + 1))
                  case measure => omega
                  case rel => exact ⟨l + 1, fun i => if i = l then IntKind.u8.wrap (z + 1) else Z i, by omega, rfl, by go_num, by rw [← bl_set]; exact HST.out _, heap_set_other HM.out hne, HXX.out.over HG9.out (fun i hi => heap_setCell_other _ ⟨g9, l, none⟩ i _ hi) (below_set (Below.refl _ _) hxw)⟩
                · obtain rfl : l = no := by omega
                  clear ho
                  have HPN := Lib.hid HXX.out.np
                  clear HXX
                  go_wp2_with ((go_at_call 25; (with_reducible refine (same28_all HPN.out.c HPN.out.d).mono ?_); rintro e w9 ⟨rfl, hb9⟩))
                  have HPZ := Lib.hid (HPN.out.kept hb9)
                  clear HPN hb9
                  go_roundg (n - (i + 1))
                  case measure => omega
                  case rel => exact ⟨i + 1, _, _, by omega, rfl, rfl, by go_num, HNB.out, HPZ.out⟩
          · rw [if_pos (by rfl)]
            refine op_alloc_named 24 rfl mz (by kernel_rfl) (hK.out _ _ (heap_up HS) (fun HS => ?_))
            clear hK K'
            (try simp only [Act.put, List.getElem_toArray, List.getElem_cons_zero, List.getElem_cons_succ, List.setIfInBounds_toArray, List.set_cons_zero, List.set_cons_succ])
            obtain ⟨bin, hbi⟩ : ∃ bin, bin = wy.heap.size := ⟨_, rfl⟩
            have hbin0 : (wy.alloc (Obj.cells mz 24)).heap[bin]? = some (.cells mz 24 (0, 0)) := by rw [hbi]; exact heap_alloc_new _ _
            rw [← hbi]
            have HBI := Lib.hid hbi
            clear hbi
            (refine wpAnyH_ready (rs := [6]) (by kernel_rfl) (by decide) ?_); (refine AllReadyH.cons rfl (fun K' hK => ?_) AllReadyH.nil); (rw [if_pos (by rfl)])
            go_simp
            refine hK.out _ _ (heap_up HS) (fun HS => ?_)
            clear hK K'
            (try simp only [Act.put, List.getElem_toArray, List.getElem_cons_zero, List.getElem_cons_succ, List.setIfInBounds_toArray, List.set_cons_zero, List.set_cons_succ])
            have ho0 := own_empty_p (wy.alloc (Obj.cells mz 24)) 5 1
            rw [show (wy.alloc (Obj.cells mz 24)).heap.size = wy.heap.size + 1 by simp] at ho0
            (refine wpAnyH_ready (rs := [10]) (by kernel_rfl) (by decide) ?_); (refine AllReadyH.cons rfl (fun K' hK => ?_) AllReadyH.nil); (rw [if_pos (by rfl)])
            refine op_append_byt _ _ rfl (wy.heap.size + 1) _ rfl ho0 ao no co Yo rfl (hYy.kept (below_alloc (below_new wy _) _)) HHZ.out (by omega) (by simp) (fun vb wE hob hgb => ?_)
            have hbE : Below wy.heap.size wy wE := (below_alloc (below_new wy _) _).grown hgb (by simp; omega) (fun j e => by have e : wy.heap.size + 1 = j := Option.some.inj e; omega)
            have hbin := (hgb.block bin (by rw [HBI.out]; simp; omega) (fun e => by injection e with e; have e : bin = wy.heap.size + 1 := e; have := HBI.out; omega)).trans (heap_up hbin0)
            have hEs := hgb.size
            rw [show ((wy.alloc (Obj.cells mz 24)).alloc (Obj.cells #[] 5)).heap.size = wy.heap.size + 2 by simp] at hEs
            refine hK.out _ _ (HS0.out.kept hbE) (fun HS => ?_)
            clear hK K' hbin0 hgb ho0
            (try simp only [Act.put, List.getElem_toArray, List.getElem_cons_zero, List.getElem_cons_succ, List.setIfInBounds_toArray, List.set_cons_zero, List.set_cons_succ])
            obtain ⟨sa, sc, rfl⟩ := own_form hob
            (refine wpAnyH_take (i := 11) (v := .agg (m3 fo tto (.slice sa no sc))) rfl (by kernel_rfl) (by kernel_rfl) (by kernel_rfl) (fun _ _ _ h => h) (Or.inl ⟨by rfl, ?ht_11⟩) HS ?_); (case ht_11 => (intro wt hS; exact exec_build 24 _ rfl _ (by kernel_rfl))); (try simp only [Act.put, List.getElem_toArray, List.getElem_cons_zero, List.getElem_cons_succ, List.setIfInBounds_toArray, List.set_cons_zero, List.set_cons_succ])
            have hbiny : wy.heap.size ≤ bin := by have := HBI.out; omega
            obtain ⟨b8, hb8⟩ : ∃ b8, b8 = wy.heap.size + 1 := ⟨_, rfl⟩
            rw [← hb8] at hob
            (refine wpAnyH_ready (rs := [13]) (by kernel_rfl) (by decide) ?_); (refine AllReadyH.cons rfl (fun K' hK => ?_) AllReadyH.nil); (rw [if_pos (by rfl)])
            refine op_store_over' 24 _ _ rfl bin (m3 fo tto (.slice sa no sc)) rfl rfl _ mz hbin (by kernel_rfl) rfl m3_all (fun w5 hc5 ho5 hb5' => ?_)
            have hobF := own_other hob ho5 (fun e => by
              obtain ⟨A9, f9, h9⟩ := own_tag hob bin e.symm
              rw [hbin] at h9; injection h9 with h9; injection h9 with _ h9; exact absurd h9 (by decide))
            have hbF : Below wy.heap.size wy w5 := hbE.trans (hb5' _ hbiny)
            have hs5 := (hb5' 0 (Nat.zero_le _)).size
            have hO5 := HS0.out.kept hbF
            refine hK.out _ _ hO5 (fun HS => ?_)
            clear hK K' HS
            obtain ⟨x, hx0, hx1, hxq⟩ := own_x hobF (by omega)
            have HXO := Lib.hid hxq
            clear hxq
            have HX := Lib.hid ((HPY.out.x (show wy.heap.size ≤ x by omega)).kept hbF)
            have hxw : w1.heap.size ≤ x := by have := HPY.out.be.size; omega
            clear hob hbin hbE ho5 hb5' hbF hs5 HPY HS0
            refine wpAnyH_done (by kernel_rfl) ?_ _
            go_upto_region 13 with fail
            refine wp_region_R (S := fun wt => (Opn bo B wt ∧ wt.heap[bin]? = some (.cells (m3 fo tto (.slice sa no sc)) 24 (0, 0))) ∧ wt.ownsRow b8 5 1 (.slice sa no sc) no (bl Yo no)) (by kernel_rfl) ⟨⟨hO5, hc5⟩, hobF⟩ ?_
            obtain ⟨wq, hwq⟩ : ∃ wq, wq = w5.drew := ⟨_, rfl⟩
            have HBQ : Below w5.heap.size w5 wq := by rw [hwq]; exact Below.drew (Below.refl _ _)
            rw [← hwq]
            have HXQ := Lib.hid (HX.out.kept HBQ)
            have hxq1 : x < wq.heap.size := by have := HBQ.size; omega
            clear hwq HBQ HX
            have HZI := Lib.hid (own_nil hobF)
            clear hO5 hc5 hobF
            (refine wpAnyR_take (i := 0) (v := ?_) rfl (by kernel_rfl) (by kernel_rfl) (by kernel_rfl) (fun _ _ _ h => h) (give_val (by rfl) ?rt_0) ?_); (case rt_0 => (intro wt hS; go_simp; try with_reducible rfl)); (try simp only [Act.put, List.getElem_toArray, List.getElem_cons_zero, List.getElem_cons_succ, List.setIfInBounds_toArray, List.set_cons_zero, List.set_cons_succ])
            (refine wpAnyR_take (i := 1) (v := .agg (m3 fo tto (.slice sa no sc))) rfl (by kernel_rfl) (by kernel_rfl) (by kernel_rfl) (fun _ _ _ h => h) (give_val (by rfl) ?rt_1) ?_); (case rt_1 => (intro wt hS; exact exec_load_part 24 _ rfl bin 0 (by rfl) _ _ _ _ 3 hS.1.2 Try.underlying24 rfl (by kernel_rfl) (Nat.le_refl 3) _ rfl)); (try simp only [Act.put, List.getElem_toArray, List.getElem_cons_zero, List.getElem_cons_succ, List.setIfInBounds_toArray, List.set_cons_zero, List.set_cons_succ])
            (refine wpAnyR_take (i := 3) (v := ?_) rfl (by kernel_rfl) (by kernel_rfl) (by kernel_rfl) (fun _ _ _ h => h) (give_val (by rfl) ?rt_3) ?_); (case rt_3 => (intro wt hS; go_simp; try with_reducible rfl)); (try simp only [Act.put, List.getElem_toArray, List.getElem_cons_zero, List.getElem_cons_succ, List.setIfInBounds_toArray, List.set_cons_zero, List.set_cons_succ]); (refine wpAnyR_take (i := 4) (v := ?_) rfl (by kernel_rfl) (by kernel_rfl) (by kernel_rfl) (fun _ _ _ h => h) (give_val (by rfl) ?rt_4) ?_); (case rt_4 => (intro wt hS; go_simp; try with_reducible rfl)); (try simp only [Act.put, List.getElem_toArray, List.getElem_cons_zero, List.getElem_cons_succ, List.setIfInBounds_toArray, List.set_cons_zero, List.set_cons_succ])
            (refine wpAnyR_take (i := 5) (v := .agg (m3 fo tto (.slice ao no co))) rfl (by kernel_rfl) (by kernel_rfl) (by kernel_rfl) (fun _ _ _ h => h) (give_val (by rfl) ?rt_5) ?_); (case rt_5 => (intro wt hS; exact exec_load_part 24 _ rfl bo 2 (by rfl) _ B _ _ 3 hS.1.1 Try.underlying24 rfl (by kernel_rfl) (by rw [HSZ.out]; omega) _ HM3.out)); (try simp only [Act.put, List.getElem_toArray, List.getElem_cons_zero, List.getElem_cons_succ, List.setIfInBounds_toArray, List.set_cons_zero, List.set_cons_succ])
            (refine wpAnyR_ready (rs := [2]) (by kernel_rfl) (by decide) (fun wd hbd HS => ?_)); refine (AllR.cons rfl (fun K' hK => ?_) AllR.nil)
            rw [if_pos (by rfl)]
            have HXD := Lib.hid (HXQ.out.kept hbd)
            have HSD := Lib.hid HS
            have hxd : x < wd.heap.size := by have := hbd.size; omega
            clear HXQ hbd HS
            unfold Oper.wp
            go_simp
            refine (CP.out _ _ _ x _ _ HXD.out.c hxd (own_bytes HSD.out.2).byt HZI.out).mono ?_
            rintro e w3 ⟨rfl, hcx, hbx, hkp⟩
            have HX3 := Lib.hid (HXD.out.go1 hcx hbx hkp)
            have hs3 := hbx.size
            refine hK.out _ _ ⟨⟨hkp _ _ _ _ HSD.out.1.1 (by decide) (by decide), hkp _ _ _ _ HSD.out.1.2 (by decide) (by decide)⟩, own_same HSD.out.2 (fun q A _ hq => hkp _ _ _ _ hq (by decide) (by decide))⟩ ?_
            have hx3 : x < w3.heap.size := by
              obtain ⟨_, hN9, _⟩ := hcx
              have := kp_size hkp hbx hxd
              exact this
            clear hK K' hcx hbx hkp HSD HXD hs3
            (try simp only [Act.put, List.getElem_toArray, List.getElem_cons_zero, List.getElem_cons_succ, List.setIfInBounds_toArray, List.set_cons_zero, List.set_cons_succ])
            (refine wpAnyR_ready (rs := [6]) (by kernel_rfl) (by decide) (fun wf hbf HS2 => ?_)); refine (AllR.cons rfl (fun K' hK => ?_) AllR.nil)
            rw [if_pos (by rfl)]
            have HXF := Lib.hid (HX3.out.kept hbf)
            have HSF := Lib.hid HS2
            have hxf : x < wf.heap.size := by have := hbf.size; omega
            clear HX3 hbf HS2
            unfold Oper.wp
            go_simp
            refine (CR.out _ _ _ x _ _ HXF.out.d hxf (HBY.out.kept (below_then HB1.out HXF.out.be)) HHZ.out).mono ?_
            rintro e w4 ⟨rfl, hdx, hbx, hkd⟩
            have HX4 := Lib.hid (HXF.out.go2 hdx hbx hkd)
            have hst := HXF.out.stay hkd
            refine hK.out _ _ ⟨⟨hst _ _ _ _ HSF.out.1.1 (by decide), hst _ _ _ _ HSF.out.1.2 (by decide)⟩, own_same HSF.out.2 (fun q A _ hq => hst _ _ _ _ hq (by decide))⟩ ?_
            clear hK K' hdx hbx hkd hst HSF HXF
            (try simp only [Act.put, List.getElem_toArray, List.getElem_cons_zero, List.getElem_cons_succ, List.setIfInBounds_toArray, List.set_cons_zero, List.set_cons_succ])
            (refine wpAnyR_take (i := 7) (v := ?_) rfl (by kernel_rfl) (by kernel_rfl) (by kernel_rfl) (fun _ _ _ h => h) (give_val (by rfl) ?rt_7) ?_); (case rt_7 => (intro wt hS; go_simp; try with_reducible rfl)); (try simp only [Act.put, List.getElem_toArray, List.getElem_cons_zero, List.getElem_cons_succ, List.setIfInBounds_toArray, List.set_cons_zero, List.set_cons_succ]); (refine wpAnyR_take (i := 8) (v := ?_) rfl (by kernel_rfl) (by kernel_rfl) (by kernel_rfl) (fun _ _ _ h => h) (give_val (by rfl) ?rt_8) ?_); (case rt_8 => (intro wt hS; go_simp; try with_reducible rfl)); (try simp only [Act.put, List.getElem_toArray, List.getElem_cons_zero, List.getElem_cons_succ, List.setIfInBounds_toArray, List.set_cons_zero, List.set_cons_succ])
            refine wpAnyR_done (by kernel_rfl) (fun wz hbz HS => ?_) _
            have HX5 := Lib.hid (HX4.out.kept hbz)
            have HSO := Lib.hid HS.2
            have HSM := Lib.hid HS.1.2
            clear HX4 hbz HS
            have M2 : (m3 fo tto (.slice sa no sc))[2]? = some (.slice sa no sc) := rfl
            generalize m3 fo tto (.slice sa no sc) = M at *
            go_wp2_with fail
            go_loopg [9] no (fun gh v9 wx => ∃ (l : Nat) (Z : Nat → Int), l ≤ no ∧ gh = no - l ∧ v9 = .int .i64 l ∧ wx.ownsRow b8 5 1 (.slice sa no sc) no (bl Z no) ∧ wx.heap[bin]? = some (.cells M 24 (0, 0)) ∧ NX w1 wx g gw x m' m')
            case atStart => exact ⟨0, _, by omega, by omega, rfl, HSO.out, HSM.out, HX5.out⟩
            case round =>
              obtain ⟨l, Z, hl, rfl, rfl, ho, hm, hxx⟩ := hrel
              clear HSO HSM HX5
              have HM := Lib.hid hm
              have HXX := Lib.hid hxx
              have cm := cellF hm
              clear hm hxx
              by_cases hln : l < no
              · have hlni : (l : Int) < no := by omega
                obtain ⟨g9, cur, rfl, hbg, hg9, hcl⟩ := own_u8 ho hln
                obtain rfl : g9 = x := HXO.out g9 rfl
                have hne : bin ≠ g9 := fun e => by
                  subst e
                  have h := HM.out
                  rw [hg9] at h; injection h with h; injection h with _ h; exact absurd h (by decide)
                have c9 := cellF hg9
                have f9 := (cells_of hg9).2.1
                have HST := Lib.hid (fun y => (ho.stored l (.int .u8 y)).1)
                have HG9 := Lib.hid hg9
                clear ho hg9
                generalize hzl : Z l = z at *
                go_wp2_with fail
                go_roundg (no - (l + 1))
                case measure => omega
                case rel => exact ⟨l + 1, fun i => if i = l then IntKind.u8.wrap (z + 1) else Z i, by omega, rfl, by go_num, by rw [← bl_set]; exact HST.out _, heap_set_other HM.out hne, HXX.out.over HG9.out (fun i hi => heap_setCell_other _ ⟨g9, l, none⟩ i _ hi) (below_set (Below.refl _ _) hxw)⟩
              · obtain rfl : l = no := by omega
                clear ho
                have HPN := Lib.hid HXX.out.np
                clear HXX
                go_wp2_with ((go_at_call 25; (with_reducible refine (same28_all HPN.out.c HPN.out.d).mono ?_); rintro e w9 ⟨rfl, hb9⟩))
                have HPZ := Lib.hid (HPN.out.kept hb9)
                clear HPN hb9
                go_roundg (n - (i + 1))
                case measure => omega
                case rel => exact ⟨i + 1, _, _, by omega, rfl, rfl, by go_num, HNB.out, HPZ.out⟩
        by_cases k1 : kd = 1
        · subst k1
          obtain ⟨ft, tt, r, nt, Yt, m', hmn, CP, CR⟩ := both_take m nn
          have CP := Lib.hid CP
          have CR := Lib.hid CR
          rw [← hmn] at HNB
          have HM3S := Lib.hid (show ∀ s, (m3 ft tt s).size = 3 from fun _ => rfl)
          have HMX := Lib.hid (show ∀ s, (m3 ft tt s).extract 0 (0 + 3) = m3 ft tt s from fun _ => rfl)
          go_wp2_with (first
            | (go_at_call 13; (with_reducible refine (CP.out _ _ _ HP1.out.c).mono ?_); rintro e w3 ⟨s1, rfl, hs1, hck⟩; obtain ⟨hM, hO3⟩ := HP1.out.go HO.out hck; obtain ⟨q1, z1, rfl, _⟩ := id hs1; have hbn3 := below_new w3 (Obj.cells (m3 ft tt (.slice q1 nt z1)) 24); have hn3 := Lib.hid (heap_alloc_new w3 (Obj.cells (m3 ft tt (.slice q1 nt z1)) 24)); have HM4 := Lib.hid (hM.kept hbn3); have HO4 := Lib.hid (hO3.kept hbn3); have HS1 := Lib.hid (hs1.kept hbn3); have hc4 := cellF HO4.out; clear hM hO3 hck hs1 hbn3) | ((with_reducible refine at_alloc 24 ?_); refine wpList_alloc_named rfl 24 rfl (mz) (by kernel_rfl) ?_) | ((with_reducible refine at_store 24 ?_); refine wpList_store_new rfl 24 _ _ rfl (m3 ft tt (.slice q2 nt z2)) _ _ _ rfl (by simp) rfl (by rw [HM3S.out _]; kernel_rfl) (by rw [HM3S.out _]; rfl) (m3_all) ?_) | ((with_reducible refine at_store 24 ?_); refine wpList_store_new rfl 24 _ _ rfl (m3 ft tt (.slice q1 nt z1)) _ _ _ rfl (by simp) rfl (by rw [HM3S.out _]; kernel_rfl) (by rw [HM3S.out _]; rfl) (m3_all) ?_) | (go_at_call 18; (with_reducible refine (CR.out _ _ _ HM4.out.d).mono ?_); rintro e w5 ⟨s2, rfl, hs2, hdk⟩; obtain ⟨hPN, hO5⟩ := HM4.out.go HO4.out hdk; have hst := HM4.out.stay hdk.2.2; obtain ⟨q2, z2, rfl, _⟩ := id hs2; have hbn5 := below_new w5 (Obj.cells (m3 ft tt (.slice q2 nt z2)) 24); have hn35 := heap_up (o := Obj.cells (m3 ft tt (.slice q2 nt z2)) 24) (hst _ _ _ _ hn3.out (by decide)); have hn5 := heap_alloc_new w5 (Obj.cells (m3 ft tt (.slice q2 nt z2)) 24); have HS1b := Lib.hid ((HS1.out.apart (fun q A fr hq => (hst _ _ _ _ hq (by decide)).trans hq.symm)).kept hbn5); have HS2b := Lib.hid (hs2.kept hbn5); have HP6 := Lib.hid (hPN.kept hbn5); clear hPN hO5 hdk hst hs2 hbn5) | ((with_reducible refine at_load 24 ?_); refine wpList_load_part rfl 24 _ rfl (w3.heap.size) (0) rfl _ (m3 ft tt (.slice q1 nt z1)) _ _ 3 (hn35) Try.underlying24 rfl (by kernel_rfl) (by rw [HM3S.out]; omega) (m3 ft tt (.slice q1 nt z1)) (HMX.out _) ?_) | ((with_reducible refine at_load 24 ?_); refine wpList_load_part rfl 24 _ rfl (w5.heap.size) (0) rfl _ (m3 ft tt (.slice q2 nt z2)) _ _ 3 (hn5) Try.underlying24 rfl (by kernel_rfl) (by rw [HM3S.out]; omega) (m3 ft tt (.slice q2 nt z2)) (HMX.out _) ?_) | (go_at_call 19; (with_reducible refine (same28_yes ft tt _ _ nt Yt _ HS1b.out HS2b.out).mono ?_); rintro e w7 ⟨rfl, hb7⟩; have HPN := Lib.hid (HP6.out.kept hb7); clear hb7) | (go_at_call 25; (with_reducible refine (same28_all HPN.out.c HPN.out.d).mono ?_); rintro e w9 ⟨rfl, hb9⟩))
          have HPZ := Lib.hid (HPN.out.kept hb9)
          clear HPN hb9
          go_roundg (n - (i + 1))
          case measure => omega
          case rel => exact ⟨i + 1, _, _, by omega, rfl, rfl, by go_num, HNB.out, HPZ.out⟩
        by_cases k2 : kd = 2
        · subst k2
          obtain ⟨r, m', hmn, CP, CR⟩ := both_twice m nn
          have CP := Lib.hid CP
          have CR := Lib.hid CR
          rw [← hmn] at HNB
          go_upto_region 23 with fail
          refine wp_region_R (S := fun wt => Opn bo B wt) (by kernel_rfl) HO.out ?_
          obtain ⟨wq, hwq⟩ : ∃ wq, wq = w2.drew := ⟨_, rfl⟩
          have HBQ : Below w2.heap.size w2 wq := by rw [hwq]; exact Below.drew (Below.refl _ _)
          rw [← hwq]
          have HPQ := Lib.hid (HP1.out.kept HBQ)
          clear hwq HBQ HP1 HO
          have HST : ∀ wt wt' : World, Opn bo B wt → Below wt.heap.size wt wt' → Opn bo B wt' := fun _ _ h hb => h.kept hb
          (refine wpAnyR_take (i := 0) (v := ?_) rfl (by kernel_rfl) (by kernel_rfl) (by kernel_rfl) (fun _ _ _ h => h) (give_val (by rfl) ?rt_0) ?_); (case rt_0 => (intro wt hS; go_simp; try with_reducible rfl)); (try simp only [Act.put, List.getElem_toArray, List.getElem_cons_zero, List.getElem_cons_succ, List.setIfInBounds_toArray, List.set_cons_zero, List.set_cons_succ]); (refine wpAnyR_take (i := 1) (v := ?_) rfl (by kernel_rfl) (by kernel_rfl) (by kernel_rfl) (fun _ _ _ h => h) (give_val (by rfl) ?rt_1) ?_); (case rt_1 => (intro wt hS; go_simp; try with_reducible rfl)); (try simp only [Act.put, List.getElem_toArray, List.getElem_cons_zero, List.getElem_cons_succ, List.setIfInBounds_toArray, List.set_cons_zero, List.set_cons_succ])
          (refine wpAnyR_take (i := 2) (v := .int .i64 nn) rfl (by kernel_rfl) (by kernel_rfl) (by kernel_rfl) (fun _ _ _ h => h) (give_val (by rfl) ?rt_2) ?_); (case rt_2 => (intro wt hS; (have hcq := cellF hS); go_simp; try with_reducible rfl)); (try simp only [Act.put, List.getElem_toArray, List.getElem_cons_zero, List.getElem_cons_succ, List.setIfInBounds_toArray, List.set_cons_zero, List.set_cons_succ])
          (refine wpAnyR_take (i := 4) (v := ?_) rfl (by kernel_rfl) (by kernel_rfl) (by kernel_rfl) (fun _ _ _ h => h) (give_val (by rfl) ?rt_4) ?_); (case rt_4 => (intro wt hS; go_simp; try with_reducible rfl)); (try simp only [Act.put, List.getElem_toArray, List.getElem_cons_zero, List.getElem_cons_succ, List.setIfInBounds_toArray, List.set_cons_zero, List.set_cons_succ]); (refine wpAnyR_take (i := 5) (v := ?_) rfl (by kernel_rfl) (by kernel_rfl) (by kernel_rfl) (fun _ _ _ h => h) (give_val (by rfl) ?rt_5) ?_); (case rt_5 => (intro wt hS; go_simp; try with_reducible rfl)); (try simp only [Act.put, List.getElem_toArray, List.getElem_cons_zero, List.getElem_cons_succ, List.setIfInBounds_toArray, List.set_cons_zero, List.set_cons_succ])
          (refine wpAnyR_take (i := 6) (v := .int .i64 nn) rfl (by kernel_rfl) (by kernel_rfl) (by kernel_rfl) (fun _ _ _ h => h) (give_val (by rfl) ?rt_6) ?_); (case rt_6 => (intro wt hS; (have hcq := cellF hS); go_simp; try with_reducible rfl)); (try simp only [Act.put, List.getElem_toArray, List.getElem_cons_zero, List.getElem_cons_succ, List.setIfInBounds_toArray, List.set_cons_zero, List.set_cons_succ])
          (refine wpAnyR_ready (rs := [3]) (by kernel_rfl) (by decide) (fun wd hbd HS => ?_)); refine (AllR.cons rfl (fun K' hK => ?_) AllR.nil)
          rw [if_pos (by rfl)]
          have HPD := Lib.hid (HPQ.out.kept hbd)
          have HSD := Lib.hid HS
          unfold Oper.wp
          go_simp
          refine (CP.out _ _ _ HPD.out.c).mono ?_
          rintro e w3 ⟨rfl, hck⟩
          obtain ⟨hM, hO3⟩ := HPD.out.go HSD.out hck
          have HM := Lib.hid hM
          refine hK.out _ _ hO3 ?_
          clear hK K' hM hO3 hck HSD HPD HPQ
          (try simp only [Act.put, List.getElem_toArray, List.getElem_cons_zero, List.getElem_cons_succ, List.setIfInBounds_toArray, List.set_cons_zero, List.set_cons_succ])
          (refine wpAnyR_ready (rs := [7]) (by kernel_rfl) (by decide) (fun wf hbf HS2 => ?_)); refine (AllR.cons rfl (fun K' hK => ?_) AllR.nil)
          rw [if_pos (by rfl)]
          have HMD := Lib.hid (HM.out.kept hbf)
          have HSF := Lib.hid HS2
          unfold Oper.wp
          go_simp
          refine (CR.out _ _ _ HMD.out.d).mono ?_
          rintro e w4 ⟨rfl, hrk⟩
          obtain ⟨hP5, hO4⟩ := HMD.out.go HSF.out hrk
          have HP5 := Lib.hid hP5
          refine hK.out _ _ hO4 ?_
          clear hK K' hP5 hO4 hrk HSF HMD HM
          (try simp only [Act.put, List.getElem_toArray, List.getElem_cons_zero, List.getElem_cons_succ, List.setIfInBounds_toArray, List.set_cons_zero, List.set_cons_succ])
          (refine wpAnyR_take (i := 8) (v := ?_) rfl (by kernel_rfl) (by kernel_rfl) (by kernel_rfl) (fun _ _ _ h => h) (give_val (by rfl) ?rt_8) ?_); (case rt_8 => (intro wt hS; go_simp; try with_reducible rfl)); (try simp only [Act.put, List.getElem_toArray, List.getElem_cons_zero, List.getElem_cons_succ, List.setIfInBounds_toArray, List.set_cons_zero, List.set_cons_succ]); (refine wpAnyR_take (i := 9) (v := ?_) rfl (by kernel_rfl) (by kernel_rfl) (by kernel_rfl) (fun _ _ _ h => h) (give_val (by rfl) ?rt_9) ?_); (case rt_9 => (intro wt hS; go_simp; try with_reducible rfl)); (try simp only [Act.put, List.getElem_toArray, List.getElem_cons_zero, List.getElem_cons_succ, List.setIfInBounds_toArray, List.set_cons_zero, List.set_cons_succ])
          refine wpAnyR_done (by kernel_rfl) (fun wz hbz HS => ?_) _
          have HPN := Lib.hid (HP5.out.kept hbz)
          clear HP5 hbz
          go_wp2_with ((go_at_call 25; (with_reducible refine (same28_all HPN.out.c HPN.out.d).mono ?_); rintro e w9 ⟨rfl, hb9⟩))
          have HPZ := Lib.hid (HPN.out.kept hb9)
          clear HPN hb9
          go_roundg (n - (i + 1))
          case measure => omega
          case rel => exact ⟨i + 1, _, _, by omega, rfl, rfl, by go_num, HNB.out, HPZ.out⟩
        by_cases k3 : kd = 3
        · subst k3
          obtain ⟨SD, vD, hRD⟩ := HP1.out.d
          have hn0 := hRD.hn.1
          have CT := Lib.hid (tick_c m w2 g gw _ _ HP1.out.c HP1.out.d (by have := HNW.out; omega))
          have hnw2 : m.now ≤ 1000 := by have := HNW.out; omega
          clear hRD
          go_upto_region 25 with fail
          go_wp2_with fail
          refine CT.out.mono ?_
          clear CT
          rintro e w3 ⟨rfl, hck⟩
          obtain ⟨hM, hO3⟩ := HP1.out.go HO.out hck
          obtain ⟨⟨vd, hrd⟩, hdk⟩ := tick_d hM.d hnw2
          have HPN := Lib.hid (hM.go hO3 hdk).1
          have cgd := cellF hrd
          have fgd := (cells_of hrd).2.1
          have HNB3 := Lib.hid (show (tickM m).now ≤ ((i + 1 : Nat) : Int) from by have := HNW.out; show m.now + 1 ≤ _; omega)
          have HRD := Lib.hid hrd
          clear hM hO3 hck hdk hrd HP1 HO hnw2 HNB
          have HNB := HNB3
          clear HNB3
          obtain ⟨tm, htm⟩ : ∃ tm, tm = tickM m := ⟨_, rfl⟩
          rw [← htm] at HPN HNB
          have HNW2 := Lib.hid HNW.out
          clear htm
          have hnw3 := HNW.out
          generalize m.now = nw at *
          go_wp2_with ((go_at_call 25; (with_reducible refine (same28_all HPN.out.c HPN.out.d).mono ?_); rintro e w9 ⟨rfl, hb9⟩))
          have HPZ := Lib.hid (HPN.out.kept hb9)
          clear HPN hb9
          go_roundg (n - (i + 1))
          case measure => omega
          case rel => exact ⟨i + 1, _, _, by omega, rfl, rfl, by go_num, HNB.out, HPZ.out⟩
        by_cases k4 : kd = 4
        · subst k4
          obtain ⟨pd, r, CP, CR⟩ := both_due m (IntKind.u64.wrap nn)
          have CP := Lib.hid CP
          have CR := Lib.hid CR
          go_wp2_with (first
            | (go_at_call 12; (with_reducible refine (CP.out _ _ _ HP1.out.c).mono ?_); rintro e w3 ⟨rfl, hb3⟩; have HP4 := Lib.hid (HP1.out.kept hb3); have HO4 := Lib.hid (HO.out.kept hb3); have hc4 := cellF HO4.out; clear hb3) | (go_at_call 21; (with_reducible refine (CR.out _ _ _ HP4.out.d).mono ?_); rintro e w5 ⟨rfl, hb5⟩; have HPN := Lib.hid (HP4.out.kept hb5); clear hb5) | (go_at_call 25; (with_reducible refine (same28_all HPN.out.c HPN.out.d).mono ?_); rintro e w9 ⟨rfl, hb9⟩))
          have HPZ := Lib.hid (HPN.out.kept hb9)
          clear HPN hb9
          go_roundg (n - (i + 1))
          case measure => omega
          case rel => exact ⟨i + 1, _, _, by omega, rfl, rfl, by go_num, HNB.out, HPZ.out⟩
        by_cases k5 : kd = 5
        · subst k5
          obtain ⟨r, m', hmn, CP, CR⟩ := both_purge m nn
          have CP := Lib.hid CP
          have CR := Lib.hid CR
          rw [← hmn] at HNB
          go_upto_region 32 with fail
          refine wp_region_R (S := fun wt => Opn bo B wt) (by kernel_rfl) HO.out ?_
          obtain ⟨wq, hwq⟩ : ∃ wq, wq = w2.drew := ⟨_, rfl⟩
          have HBQ : Below w2.heap.size w2 wq := by rw [hwq]; exact Below.drew (Below.refl _ _)
          rw [← hwq]
          have HPQ := Lib.hid (HP1.out.kept HBQ)
          clear hwq HBQ HP1 HO
          have HST : ∀ wt wt' : World, Opn bo B wt → Below wt.heap.size wt wt' → Opn bo B wt' := fun _ _ h hb => h.kept hb
          (refine wpAnyR_take (i := 0) (v := ?_) rfl (by kernel_rfl) (by kernel_rfl) (by kernel_rfl) (fun _ _ _ h => h) (give_val (by rfl) ?rt_0) ?_); (case rt_0 => (intro wt hS; go_simp; try with_reducible rfl)); (try simp only [Act.put, List.getElem_toArray, List.getElem_cons_zero, List.getElem_cons_succ, List.setIfInBounds_toArray, List.set_cons_zero, List.set_cons_succ]); (refine wpAnyR_take (i := 1) (v := ?_) rfl (by kernel_rfl) (by kernel_rfl) (by kernel_rfl) (fun _ _ _ h => h) (give_val (by rfl) ?rt_1) ?_); (case rt_1 => (intro wt hS; go_simp; try with_reducible rfl)); (try simp only [Act.put, List.getElem_toArray, List.getElem_cons_zero, List.getElem_cons_succ, List.setIfInBounds_toArray, List.set_cons_zero, List.set_cons_succ])
          (refine wpAnyR_take (i := 2) (v := .int .i64 nn) rfl (by kernel_rfl) (by kernel_rfl) (by kernel_rfl) (fun _ _ _ h => h) (give_val (by rfl) ?rt_2) ?_); (case rt_2 => (intro wt hS; (have hcq := cellF hS); go_simp; try with_reducible rfl)); (try simp only [Act.put, List.getElem_toArray, List.getElem_cons_zero, List.getElem_cons_succ, List.setIfInBounds_toArray, List.set_cons_zero, List.set_cons_succ])
          (refine wpAnyR_take (i := 4) (v := ?_) rfl (by kernel_rfl) (by kernel_rfl) (by kernel_rfl) (fun _ _ _ h => h) (give_val (by rfl) ?rt_4) ?_); (case rt_4 => (intro wt hS; go_simp; try with_reducible rfl)); (try simp only [Act.put, List.getElem_toArray, List.getElem_cons_zero, List.getElem_cons_succ, List.setIfInBounds_toArray, List.set_cons_zero, List.set_cons_succ]); (refine wpAnyR_take (i := 5) (v := ?_) rfl (by kernel_rfl) (by kernel_rfl) (by kernel_rfl) (fun _ _ _ h => h) (give_val (by rfl) ?rt_5) ?_); (case rt_5 => (intro wt hS; go_simp; try with_reducible rfl)); (try simp only [Act.put, List.getElem_toArray, List.getElem_cons_zero, List.getElem_cons_succ, List.setIfInBounds_toArray, List.set_cons_zero, List.set_cons_succ])
          (refine wpAnyR_take (i := 6) (v := .int .i64 nn) rfl (by kernel_rfl) (by kernel_rfl) (by kernel_rfl) (fun _ _ _ h => h) (give_val (by rfl) ?rt_6) ?_); (case rt_6 => (intro wt hS; (have hcq := cellF hS); go_simp; try with_reducible rfl)); (try simp only [Act.put, List.getElem_toArray, List.getElem_cons_zero, List.getElem_cons_succ, List.setIfInBounds_toArray, List.set_cons_zero, List.set_cons_succ])
          (refine wpAnyR_ready (rs := [3]) (by kernel_rfl) (by decide) (fun wd hbd HS => ?_)); refine (AllR.cons rfl (fun K' hK => ?_) AllR.nil)
          rw [if_pos (by rfl)]
          have HPD := Lib.hid (HPQ.out.kept hbd)
          have HSD := Lib.hid HS
          unfold Oper.wp
          go_simp
          refine (CP.out _ _ _ HPD.out.c).mono ?_
          rintro e w3 ⟨rfl, hck⟩
          obtain ⟨hM, hO3⟩ := HPD.out.go HSD.out hck
          have HM := Lib.hid hM
          refine hK.out _ _ hO3 ?_
          clear hK K' hM hO3 hck HSD HPD HPQ
          (try simp only [Act.put, List.getElem_toArray, List.getElem_cons_zero, List.getElem_cons_succ, List.setIfInBounds_toArray, List.set_cons_zero, List.set_cons_succ])
          (refine wpAnyR_ready (rs := [7]) (by kernel_rfl) (by decide) (fun wf hbf HS2 => ?_)); refine (AllR.cons rfl (fun K' hK => ?_) AllR.nil)
          rw [if_pos (by rfl)]
          have HMD := Lib.hid (HM.out.kept hbf)
          have HSF := Lib.hid HS2
          unfold Oper.wp
          go_simp
          refine (CR.out _ _ _ HMD.out.d).mono ?_
          rintro e w4 ⟨rfl, hrk⟩
          obtain ⟨hP5, hO4⟩ := HMD.out.go HSF.out hrk
          have HP5 := Lib.hid hP5
          refine hK.out _ _ hO4 ?_
          clear hK K' hP5 hO4 hrk HSF HMD HM
          (try simp only [Act.put, List.getElem_toArray, List.getElem_cons_zero, List.getElem_cons_succ, List.setIfInBounds_toArray, List.set_cons_zero, List.set_cons_succ])
          (refine wpAnyR_take (i := 8) (v := ?_) rfl (by kernel_rfl) (by kernel_rfl) (by kernel_rfl) (fun _ _ _ h => h) (give_val (by rfl) ?rt_8) ?_); (case rt_8 => (intro wt hS; go_simp; try with_reducible rfl)); (try simp only [Act.put, List.getElem_toArray, List.getElem_cons_zero, List.getElem_cons_succ, List.setIfInBounds_toArray, List.set_cons_zero, List.set_cons_succ]); (refine wpAnyR_take (i := 9) (v := ?_) rfl (by kernel_rfl) (by kernel_rfl) (by kernel_rfl) (fun _ _ _ h => h) (give_val (by rfl) ?rt_9) ?_); (case rt_9 => (intro wt hS; go_simp; try with_reducible rfl)); (try simp only [Act.put, List.getElem_toArray, List.getElem_cons_zero, List.getElem_cons_succ, List.setIfInBounds_toArray, List.set_cons_zero, List.set_cons_succ])
          refine wpAnyR_done (by kernel_rfl) (fun wz hbz HS => ?_) _
          have HPN := Lib.hid (HP5.out.kept hbz)
          clear HP5 hbz
          go_wp2_with ((go_at_call 25; (with_reducible refine (same28_all HPN.out.c HPN.out.d).mono ?_); rintro e w9 ⟨rfl, hb9⟩))
          have HPZ := Lib.hid (HPN.out.kept hb9)
          clear HPN hb9
          go_roundg (n - (i + 1))
          case measure => omega
          case rel => exact ⟨i + 1, _, _, by omega, rfl, rfl, by go_num, HNB.out, HPZ.out⟩
        by_cases k6 : kd = 6
        · subst k6
          obtain ⟨SC, hNC⟩ := HP1.out.c
          have CC := Lib.hid (ncopy_any g _ _ _ _ _ _ _ _ w2 hNC)
          clear hNC
          have HMZ := Lib.hid (show (m3 55 0 (.slice none 0 0)).size = 3 from rfl)
          go_wp2_with (first
            | (go_at_call 24; (with_reducible refine (CC.out).mono ?_); rintro e w3 ⟨g2, S2, rfl, hC2, hb3⟩; have HT3 := Lib.hid (tri_new HP1.out hb3 hC2); have HO3 := Lib.hid (HO.out.kept hb3); clear hC2 hb3) | ((with_reducible refine at_build 24 ?_); refine wpList_build_named rfl 24 _ rfl (m3 55 0 (.slice none 0 0)) (by kernel_rfl) ?_) | (go_at_call 9; (with_reducible refine (old_send HT3.out.old).mono ?_); rintro e w4 ⟨r4, rfl, hold, hbd, hkg⟩; obtain ⟨hT, hO4⟩ := HT3.out.step HO3.out hold hbd hkg; have HT4 := Lib.hid hT; have HO4 := Lib.hid hO4; clear hT hO4 hold hbd hkg) | (go_at_call 13; (with_reducible refine (old_take HT4.out.old).mono ?_); rintro e w5 ⟨M5, rfl, hold, hbd, hkg⟩; obtain ⟨hT, hO5⟩ := HT4.out.step HO4.out hold hbd hkg; have HT5 := Lib.hid hT; have HO5 := Lib.hid hO5; clear hT hO5 hold hbd hkg) | (go_at_call 14; (with_reducible refine (old_tick HT5.out.old).mono ?_); rintro e w6 ⟨rfl, hold, hbd, hkg⟩; obtain ⟨hT, hO6⟩ := HT5.out.step HO5.out hold hbd hkg; have HPN := Lib.hid hT.pair; clear hT hO6 hold hbd hkg) | (go_at_call 25; (with_reducible refine (same28_all HPN.out.c HPN.out.d).mono ?_); rintro e w9 ⟨rfl, hb9⟩))
          have HPZ := Lib.hid (HPN.out.kept hb9)
          clear HPN hb9
          go_roundg (n - (i + 1))
          case measure => omega
          case rel => exact ⟨i + 1, _, _, by omega, rfl, rfl, by go_num, HNB.out, HPZ.out⟩
        have HPN := HP1
        clear HP1
        go_wp2_with ((go_at_call 25; (with_reducible refine (same28_all HPN.out.c HPN.out.d).mono ?_); rintro e w9 ⟨rfl, hb9⟩))
        have HPZ := Lib.hid (HPN.out.kept hb9)
        clear HPN hb9
        go_roundg (n - (i + 1))
        case measure => omega
        case rel => exact ⟨i + 1, _, _, by omega, rfl, rfl, by go_num, HNB.out, HPZ.out⟩
      · obtain rfl : i = n := by omega
        have HBE := Lib.hid HP.out.be
        clear HP
        go_wp2_with ((go_at_call 7; (with_reducible refine (known28 _).mono ?_); rintro e w3 ⟨rfl, hb3⟩))
        go_ret
        exact ⟨rfl, below_then (below_then HB1.out HBE.out) hb3⟩
end Go.Proofs.Ytfgcjgabknoamaa
