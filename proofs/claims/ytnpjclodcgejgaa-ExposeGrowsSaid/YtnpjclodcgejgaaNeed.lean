/- What stakes need: expose's own. Condition: the numbers fit their kinds. -/
import Derived.Test.YtnpjclodcgejgaaWorst2
import Derived.Test.YtnpjclodcgejgaaOne
import Derived.Test.YtnpjclodcgejgaaTail2
namespace Go.Proofs.Ytnpjclodcgejgaa
set_option linter.unusedVariables false
set_option linter.unusedSimpArgs false
open Go.RowKit

theorem post_cell_tmp {fn : Func} {P : Program} {p q : Tmp} {ty : TypeId} {R : Ending → World → Prop} {a : Act} {w : World} {g : Nat} {t : TypeId} {cs : Array Value} {d : TypeDesc} {v : Value} (h : fn.results = #[.cell p ty, .tmp q])
    (hp : a.tmps.getD p undef = .pointer (some ⟨g, 0, none⟩)) (hv : a.tmps.getD q undef = v) (hd0 : a.defers = []) (hg : w.heap[g]? = some (.cells cs t (0, 0)))
    (hu : P.underlying ty = some d) (hd : (match d with | .struct _ | .array _ _ => true | _ => false) = true) (hi : (P.info? ty).map (·.size) = some cs.size) (hR : R (.returned (.tuple #[.agg cs, v])) w) : bodyPost P fn R .ret a w := by
  refine bodyPost_ret (v := .tuple #[.agg cs, v]) ?_ hd0 hR
  have hp' : a.tmps[p]?.getD undef = .pointer (some ⟨g, 0, none⟩) := by simpa using hp
  have hv' : a.tmps[q]?.getD undef = v := by simpa using hv
  simp [results, h, hp', hv', asAddr, run_loadVar_row w g t ty cs (0, 0) d hg hu hd hi]
theorem below_set {w w1 : World} {B g i : Nat} {v : Value} (h : Below B w w1) (hg : B ≤ g) : Below B w (w1.setCell ⟨g, i, none⟩ v) := by
  have hsz : (w1.setCell ⟨g, i, none⟩ v).heap.size = w1.heap.size := by simp [World.setCell]
  exact ⟨h.1, h.2, h.3, by rw [hsz]; exact h.size, fun k hk => by rw [heap_setCell_other w1 ⟨g, i, none⟩ k v (by simp; omega)]; exact h.block k hk⟩

theorem own_below {w w1 : World} {base n size : Nat} {e : TypeId} {v : Value} {xs : List Value} (hb : Below w.heap.size w w1) (h : w.ownsRow base e size v n xs) : w1.ownsRow base e size v n xs :=
  h.kept (row := none) ⟨hb.1, hb.2, hb.3, hb.size, fun k hk _ => hb.block k hk⟩ (by cases v.ownBlock <;> simp)
theorem q_call_in {P : Program} {ops : Array Oper} {Q : Act → Prop} {o : Oper} {rest : List Oper} {a : Act} {W : World} (v : Value) (f : FuncId) (args : Array Value) (hw : Region.wanted o (yielded ops a.tmps) = true) (hc : ∀ w, Below W.heap.size W w → Calls P f args w fun e w'' => e = .returned v ∧ Below w.heap.size w w'')
    (he : ∀ w, Below W.heap.size W w → (execOp a.eval o).run P w = .ok (.enter f args) w)
    (h : WQ P ops (fun w' => Below W.heap.size W w') Q rest (a.put o.dst v)) : WQ P ops (fun w' => Below W.heap.size W w') Q (o :: rest) a :=
  q_call v f args hw he (fun w hw => (hc w hw).mono fun _ _ ⟨h1, h2⟩ => ⟨h1, below_then hw h2⟩) h
def r3 (a b c : Int) : Array Value := #[.int .i64 a, .int .i64 b, .int .i64 c]
theorem r3_all (a b c : Int) : (r3 a b c).all (·.oneCell') = true := all_one fun i v hv => by
  have hi : i < 3 := (Array.getElem?_eq_some_iff.1 hv).1
  have : i = 0 ∨ i = 1 ∨ i = 2 := by omega
  rcases this with rfl | rfl | rfl <;> (cases hv; rfl)
theorem r3_size (a b c : Int) : (r3 a b c).size = 3 := rfl
theorem lgs {S : Nat → Array Value} (h : ∀ i, IsStk (S i)) (i : Nat) : IsLeg (lg S i) := (h i).leg

set_option maxRecDepth 100000 in
set_option maxHeartbeats 2000000 in
theorem need_any (S : Nat → Array Value) (O : Nat → Nat → Array Value) (m : Nat → Nat) (a : Option Addr) (n cap : Nat) (w : World) (hS : ∀ i, IsStk (S i)) (hO : ∀ i k, IsOrd (O i k)) (hA : Stks w a n S O m) (hn : n ≤ 9223372036854775807) :
    Calls Try.prog 14 #[.slice a n cap] w fun e w' => e = .returned (.tuple #[.agg (need S O m n), .int .i64 (nE S O m n)]) ∧ Below w.heap.size w w' := by
  have H3 := Lib.hid (show (r3 0 0 0).size = 3 from rfl)
  by_cases hlong : 16 < n
  · have he : nE S O m n = 3 := by simp [nE, hlong]
    have HF := Lib.hid (And.intro (need_not (S := S) (O := O) (m := m) (n := n) (by rw [he]; decide)) he)
    clear he hA
    go_enter Try.func14, Try.ntmps14
    go_wp2_with (first | ((with_reducible refine at_alloc 35 ?_); refine wpList_alloc_named rfl 35 rfl (r3 0 0 0) (by kernel_rfl) ?_) | ((with_reducible refine at_build 35 ?_); refine wpList_build_named rfl 35 _ rfl (r3 0 0 0) (by kernel_rfl) ?_) | ((with_reducible refine at_store 35 ?_); refine wpList_store_over rfl 35 _ _ rfl (w.heap.size) (r3 0 0 0) rfl rfl _ _ (heap_alloc_new _ _) (by rw [H3.out]; kernel_rfl) (rfl) (r3_all 0 0 0) ?_; intro w2 hg2 hs2 ho2 hb2))
    have HG := hg2
    have HB := (below_new w (Obj.cells (r3 0 0 0) 35)).trans (hb2 _ (Nat.le_refl _))
    exact post_cell_tmp (g := w.heap.size) (t := 35) rfl rfl rfl rfl (HG) Try.underlying35 rfl (by kernel_rfl) ⟨by rw [HF.out.1, HF.out.2]; rfl, HB⟩
  · have HE := Lib.hid (show nE S O m n = if okKs S O m n then (if onceTo (lg S) n then 0 else 8) else 2 by simp [nE, hlong])
    have HS := Lib.hid hS
    have HO := Lib.hid hO
    have HA := Lib.hid hA
    clear hS hO hA
    go_enter Try.func14, Try.ntmps14
    go_wp2_with (first | ((with_reducible refine at_alloc 35 ?_); refine wpList_alloc_named rfl 35 rfl (r3 0 0 0) (by kernel_rfl) ?_))
    go_loopg [4, 15] n (fun gh x i wr => ∃ (k : Nat) (v : Value), k ≤ n ∧ gh = n - k ∧ i = .int .i64 k ∧ v = x ∧ okKs S O m k = true ∧ wr.ownsRow (w.heap.size + 1) 30 26 v k (flat (lg S) k) ∧ wr.heap[w.heap.size]? = some (.cells (r3 0 0 0) 35 (0, 0)) ∧ Below w.heap.size w wr)
    case atStart => exact ⟨0, _, by omega, by omega, rfl, rfl, rfl, World.ownsRow_nil _ _ _ _, heap_alloc_new _ _, below_new _ _⟩
    case round =>
      obtain ⟨k, v, hk, rfl, rfl, rfl, hok, hoa, hg, hb⟩ := hrel
      by_cases hlt : k < n
      · obtain ⟨g, off, A, t, fr, rfl, hgA, hszA, hexA⟩ := (HA.out.kept hb).at_ k hlt
        obtain ⟨ad, c, h28, hord, hmc, hc, _⟩ := (HA.out.kept hb).or k hlt
        have hst := HS.out k
        have HEX := Lib.hid hexA
        have HZ := Lib.hid hszA
        have HOK := Lib.hid hok
        have hs29 := Lib.hid hst.size
        have hse := Lib.hid (extract_all hst.size)
        clear hexA hszA hok
        have cm := may_k (S k) (O k) ad (m k) c (wr.alloc (Obj.cells (S k) 33)) hst (HO.out k) (hord.kept (below_new _ _)) h28 (by omega)
        have hok1 : okKs S O m (k + 1) = (okKs S O m k && okK (S k) (O k) (m k)) := rfl
        have HK1 := Lib.hid hok1
        clear hok1 h28 hord
        have hgx := heap_up (o := Obj.cells (S k) 33) hg
        cases hoo : okK (S k) (O k) (m k)
        · rw [hoo] at cm
          have he : nE S O m n = 2 := by
            have : okKs S O m n = false := by
              rw [Bool.eq_false_iff]
              intro h'
              have := okKs_mono h' (show k + 1 ≤ n by omega)
              rw [HK1.out, hoo] at this
              simp at this
            rw [HE.out, this]
            rfl
          have HF := Lib.hid (And.intro (need_not (S := S) (O := O) (m := m) (n := n) (by rw [he]; decide)) he)
          clear he hoo
          go_wp2_with (first | ((with_reducible refine at_load 33 ?_); refine wpList_load_part rfl 33 _ rfl (g) ((off + k * 29)) rfl _ (A) _ _ 29 (hgA) Try.underlying33 rfl (by kernel_rfl) (by have := HZ.out; omega) (S k) (HEX.out) ?_) | ((with_reducible refine at_load 33 ?_); refine wpList_load_part rfl 33 _ rfl (wr.heap.size) (0) rfl _ (S k) _ _ 29 (heap_alloc_new _ _) Try.underlying33 rfl (by kernel_rfl) (by rw [hs29.out]; omega) (S k) (hse.out) ?_) | ((with_reducible refine at_alloc 33 ?_); refine wpList_alloc_named rfl 33 rfl (z29) (by kernel_rfl) ?_) | ((with_reducible refine at_store 33 ?_); refine wpList_store_new rfl 33 _ _ rfl (S k) _ _ _ rfl (by simp) rfl (by rw [hst.size]; kernel_rfl) (by rw [hst.size]; rfl) (hst.all) ?_) | (go_at_call 24; (with_reducible refine (cm).mono ?_); rintro e w1 ⟨rfl, hb1⟩; have hg1 := kept hb1 hgx) | ((with_reducible refine at_build 35 ?_); refine wpList_build_named rfl 35 _ rfl (r3 0 0 0) (by kernel_rfl) ?_) | ((with_reducible refine at_store 35 ?_); refine wpList_store_over rfl 35 _ _ rfl (w.heap.size) (r3 0 0 0) rfl rfl _ _ (hg1) (by rw [H3.out]; kernel_rfl) (rfl) (r3_all 0 0 0) ?_; intro w2 hg2 hs2 ho2 hb2))
          have HG := hg2
          have HB := (below_then (below_then hb (below_new _ _)) hb1).trans (hb2 _ (Nat.le_refl _))
          exact post_cell_tmp (g := w.heap.size) (t := 35) rfl rfl rfl rfl (HG) Try.underlying35 rfl (by kernel_rfl) ⟨by rw [HF.out.1, HF.out.2]; rfl, HB⟩
        · rw [hoo] at cm
          have HN := Lib.hid (show okKs S O m (k + 1) = true by rw [HK1.out, HOK.out, hoo]; rfl)
          clear hoo
          have hbs := hb.size
          have hoo1 := hoa.alloc (Obj.cells (S k) 33)
          go_wp2_with (first | ((with_reducible refine at_load 33 ?_); refine wpList_load_part rfl 33 _ rfl (g) ((off + k * 29)) rfl _ (A) _ _ 29 (hgA) Try.underlying33 rfl (by kernel_rfl) (by have := HZ.out; omega) (S k) (HEX.out) ?_) | ((with_reducible refine at_load 33 ?_); refine wpList_load_part rfl 33 _ rfl (wr.heap.size) (0) rfl _ (S k) _ _ 29 (heap_alloc_new _ _) Try.underlying33 rfl (by kernel_rfl) (by rw [hs29.out]; omega) (S k) (hse.out) ?_) | ((with_reducible refine at_alloc 33 ?_); refine wpList_alloc_named rfl 33 rfl (z29) (by kernel_rfl) ?_) | ((with_reducible refine at_store 33 ?_); refine wpList_store_new rfl 33 _ _ rfl (S k) _ _ _ rfl (by simp) rfl (by rw [hst.size]; kernel_rfl) (by rw [hst.size]; rfl) (hst.all) ?_) | (go_at_call 24; (with_reducible refine (cm).mono ?_); rintro e w1 ⟨rfl, hb1⟩; have hg1 := kept hb1 hgx; have hgk := kept hb1 (heap_alloc_new wr (Obj.cells (S k) 33)); have hoa1 := own_below hb1 hoo1; have hbs1 : wr.heap.size + 1 ≤ w1.heap.size := by simpa using hb1.size) | ((with_reducible refine at_load 30 ?_); refine wpList_load_part rfl 30 _ rfl (wr.heap.size) (0) rfl _ (S k) _ _ 26 (hgk) Try.underlying30 rfl (by kernel_rfl) (by rw [hs29.out]; omega) (lg S k) (rfl) ?_) | ((with_reducible refine at_slice1 60 ?_); refine wpList_slice_leg rfl _ rfl (lg S k) rfl (hst.leg).size ?_) | ((with_reducible refine at_append 60 ?_); refine wpList_append_one rfl _ _ rfl (w.heap.size + 1) v k _ rfl (hoa1.alloc _) w1.heap.size (lg S k) hst.leg rfl (heap_alloc_new _ _) (by omega) (by simp; omega) ?_; intro v1 w2 ho2 hg2 hw2))
          go_roundg (n - (k + 1))
          case measure => omega
          case rel =>
            refine ⟨k + 1, _, by omega, rfl, by go_num, rfl, HN.out, ho2, ?_, ?_⟩
            · exact (hg2.block w.heap.size (by simp; omega) (fun e => by have := (hoa1.lt _ e.symm).1; omega)).trans (kept (below_new _ _) hg1)
            · exact (below_then (below_then (below_then hb (below_new _ _)) hb1) (below_new _ _)).grown hg2 (by simp; omega) (fun j hj => by have := (hoa1.lt j hj).1; omega)
      · obtain rfl : k = n := by omega
        have HOK := Lib.hid hok
        clear hok
        obtain ⟨a1, c1, rfl, hl1⟩ := own_legs (lgs HS.out) hoa
        clear hoa
        have hto := okKs_ok HS.out k HOK.out
        have cm := margin_any (H := Unit) (lg S) a1 k c1 wr (lgs HS.out) hl1 (by omega)
        have hbs := hb.size
        cases hon : onceTo (lg S) k
        · have he : nE S O m k = 8 := by rw [HE.out, HOK.out, hon]; rfl
          have HF := Lib.hid (And.intro (need_not (S := S) (O := O) (m := m) (n := k) (by rw [he]; decide)) he)
          rw [show mE (lg S) k = 8 by unfold mE; rw [if_neg hlong, hto, hon]; rfl, show mN (lg S) k = 0 by unfold mN; rw [if_neg hlong, hto, hon]; rfl] at cm
          clear he hon hl1
          go_wp2_with fail
          refine cm.mono ?_
          rintro e w1 ⟨rfl, hb1⟩
          have hg1 := kept hb1 hg
          obtain ⟨e1, f1, _⟩ := cells_of hg1
          go_wp2_with (first | ((with_reducible refine at_build 35 ?_); refine wpList_build_named rfl 35 _ rfl (r3 0 0 0) (by kernel_rfl) ?_) | ((with_reducible refine at_store 35 ?_); refine wpList_store_over rfl 35 _ _ rfl (w.heap.size) (r3 0 0 0) rfl rfl _ _ (heap_set hg1) (by rw [H3.out]; kernel_rfl) (rfl) (r3_all 0 0 0) ?_; intro w2 hg2 hs2 ho2 hb2))
          have HG := hg2
          have HB := (below_set (i := 0) (v := .int .i64 0) (below_then hb hb1) (Nat.le_refl _)).trans (hb2 _ (Nat.le_refl _))
          exact post_cell_tmp (g := w.heap.size) (t := 35) rfl rfl rfl rfl (HG) Try.underlying35 rfl (by kernel_rfl) ⟨by rw [HF.out.1, HF.out.2]; rfl, HB⟩
        · obtain ⟨me, mn⟩ := mE_of (L := lg S) (n := k) (by omega) hto hon
          have he : nE S O m k = 0 := by rw [HE.out, HOK.out, hon]; rfl
          have HF := Lib.hid (And.intro (need_ok (S := S) (O := O) (m := m) (n := k) he) he)
          rw [me, mn] at cm
          clear he hon hl1 me mn hto
          generalize sumTo (lg S) k 9 = M at *
          go_wp2_with fail
          refine cm.mono ?_
          rintro e w1 ⟨rfl, hb1⟩
          have hg1 := kept hb1 hg
          obtain ⟨e1, f1, _⟩ := cells_of hg1
          go_wp2_with fail
          refine at_world ?_
          intro w2 hw2
          have hg2 : w2.heap[w.heap.size]? = some (.cells (r3 M 0 0) 35 (0, 0)) := by rw [hw2]; exact heap_set hg1
          have hb2 : Below w.heap.size w w2 := by rw [hw2]; exact below_set (below_then hb hb1) (Nat.le_refl _)
          clear hw2 hg1 e1 f1 hb1 hb hg cm
          go_loopg [41] k (fun gh i wr => ∃ j : Nat, j ≤ k ∧ gh = k - j ∧ i = .int .i64 j ∧ wr.heap[w.heap.size]? = some (.cells (r3 M (sW S O m j) (sU S j)) 35 (0, 0)) ∧ Below w.heap.size w wr)
          case atStart => exact ⟨0, by omega, by omega, rfl, hg2, hb2⟩
          case round =>
            clear hg2 hb2
            obtain ⟨j, hj, rfl, rfl, hg, hb⟩ := hrel
            by_cases hlt2 : j < k
            · have hjk : j ≤ 15 := by omega
              obtain ⟨g, off, A, t, fr, rfl, hgA, hszA, hexA⟩ := (HA.out.kept hb).at_ j hlt2
              obtain ⟨ad, c, h28, hord, hmc, hc, _⟩ := (HA.out.kept hb).or j hlt2
              have hst := HS.out j
              have HEX := Lib.hid hexA
              have HZ := Lib.hid hszA
              have hs29 := Lib.hid hst.size
              have hse := Lib.hid (extract_all hst.size)
              have hkk := okKs_at HOK.out hlt2
              have F := okK_facts hst hkk
              have cw := fun w' hb' => worst_k (S j) (O j) ad (m j) c w' hst (HO.out j) (hord.kept hb') h28 hkk
              have CW := Lib.hid cw
              obtain ⟨hw0, hw1⟩ := F.w
              obtain ⟨hu0, hu1⟩ := F.u
              have hle := F.le
              obtain ⟨⟨s0, s1⟩, s2, s3⟩ := s_bd HS.out j (okKs_mono HOK.out (by omega))
              have hpm := prod_bd7 F.q (s := N (S j) 27) (by have := F.p; omega)
              have hq0 := F.q
              have hp0 := F.p
              have hb0 := F.b
              have aq : (S j)[25]? = some (.int .i64 (N (S j) 25)) := hst.q.1
              have ab : (S j)[26]? = some (.int .i64 (N (S j) 26)) := hst.b.1
              have ap : (S j)[27]? = some (.int .i64 (N (S j) 27)) := hst.p.1
              have HWn := Lib.hid (show sW S O m (j + 1) = sW S O m j + kw (S j) (O j) (m j) from rfl)
              have HUn := Lib.hid (show sU S (j + 1) = sU S j + ku (S j) from rfl)
              have HKU := Lib.hid (show ku (S j) = N (S j) 26 - N (S j) 25 * N (S j) 27 from rfl)
              have hku : ku (S j) = N (S j) 26 - N (S j) 25 * N (S j) 27 := rfl
              clear cw hexA hszA hkk F h28 hord hmc hc
              generalize sW S O m j = sw at *
              generalize sU S j = su at *
              generalize kw (S j) (O j) (m j) = kwj at *
              generalize ku (S j) = kuj at *
              generalize N (S j) 25 = q at *
              generalize N (S j) 26 = b at *
              generalize N (S j) 27 = p at *
              have hwA : wrap64 (sw + kwj) = sw + kwj := by unfold wrap64; omega
              have hwM : wrap64 (q * p) = q * p := by unfold wrap64; omega
              have hwS : wrap64 (b - q * p) = kuj := by rw [← hku]; unfold wrap64; omega
              have hwU : wrap64 (su + kuj) = su + kuj := by unfold wrap64; omega
              clear hku
              go_wp2_with (first | ((with_reducible refine at_load 33 ?_); refine wpList_load_part rfl 33 _ rfl (g) ((off + j * 29)) rfl _ (A) _ _ 29 (hgA) Try.underlying33 rfl (by kernel_rfl) (by have := HZ.out; omega) (S j) (HEX.out) ?_) | ((with_reducible refine at_alloc 33 ?_); refine wpList_alloc_named rfl 33 rfl (z29) (by kernel_rfl) ?_) | ((with_reducible refine at_store 33 ?_); refine wpList_store_new rfl 33 _ _ rfl (S j) _ _ _ rfl (by simp) rfl (by rw [hst.size]; kernel_rfl) (by rw [hst.size]; rfl) (hst.all) ?_))
              refine at_world ?_
              intro w3 hw3
              have hg3 : w3.heap[w.heap.size]? = some (.cells (r3 M sw su) 35 (0, 0)) := by rw [hw3]; exact heap_up hg
              have hk3 : w3.heap[wr.heap.size]? = some (.cells (S j) 33 (0, 0)) := by rw [hw3]; exact heap_alloc_new _ _
              have hb3 : Below w.heap.size w w3 := by rw [hw3]; exact below_alloc hb _
              have hr3 : Below wr.heap.size wr w3 := by rw [hw3]; exact below_new _ _
              clear hw3 hg hb hgA
              obtain ⟨R, hR⟩ : ∃ R, R = r3 M sw su := ⟨_, rfl⟩
              have n1 : R[1]? = some (.int .i64 sw) := by rw [hR]; rfl
              have n2 : R[2]? = some (.int .i64 su) := by rw [hR]; rfl
              rw [← hR] at hg3
              have HR := Lib.hid hR
              clear hR
              refine wp_region_tail2 6 (by kernel_rfl) (by kernel_rfl) (by kernel_rfl) (by kernel_rfl) rfl rfl (by kernel_rfl) (by kernel_rfl) ?_
              simp only [List.take, List.getD, List.getElem?_cons_succ, List.getElem?_cons_zero, Option.getD]
              repeat (first | ((with_reducible apply q_skip); (case hw => rfl); (try simp only [Act.put, List.setIfInBounds_toArray, List.set_cons_zero, List.set_cons_succ])) | ((with_reducible refine at_qload 33 ?_); refine q_load_part (by rfl) 33 _ rfl (wr.heap.size) (0) rfl _ (S j) _ 29 (hk3) Try.underlying33 rfl (by kernel_rfl) (by rw [hs29.out]; omega) (S j) (hse.out) ?_; try simp only [Act.put, List.setIfInBounds_toArray, List.set_cons_zero, List.set_cons_succ]) | ((with_reducible refine at_qcall 26 ?_); refine q_call_in _ 26 _ (by rfl) (fun w' hb' => CW.out w' (hr3.trans (hb'.mono hr3.size))) (fun wq hbq => by go_simp) ?_; try simp only [Act.put, List.setIfInBounds_toArray, List.set_cons_zero, List.set_cons_succ]) | ((with_reducible apply q_val); (case hw => rfl); (case hv => intro wq hbq; have hcq := cellF (Ytnpjclodcgejgaa.kept hbq hg3); go_simp; try rfl); (try simp only [Act.put, List.setIfInBounds_toArray, List.set_cons_zero, List.set_cons_succ])))
              refine q_nil ?_
              intro w4 hb4
              have hg4 := Ytnpjclodcgejgaa.kept hb4 hg3
              have hk4 := Ytnpjclodcgejgaa.kept hb4 hk3
              obtain ⟨e4, f4, l4⟩ := cells_of hg4
              have hb14 := below_then hb3 hb4
              have hne : wr.heap.size ≠ w.heap.size := by have := (Array.getElem?_eq_some_iff.1 hg3).1; have := hr3.size; intro h; rw [h] at hk3; rw [hk3] at hg3; cases hg3
              have hg5 := heap_set (i := 1) (v := .int .i64 (sw + kwj)) hg4
              have hb5 := below_set (i := 1) (v := .int .i64 (sw + kwj)) hb14 (Nat.le_refl _)
              obtain ⟨e5, f5, _⟩ := cells_of hg5
              obtain ⟨ek5, _, _⟩ := cells_of (heap_set_other (i := 1) (v := .int .i64 (sw + kwj)) hk4 hne)
              have n5 : (R.setIfInBounds 1 (.int .i64 (sw + kwj)))[2]? = some (.int .i64 su) := by rw [Array.getElem?_setIfInBounds_ne (by omega)]; exact n2
              have hRR : (R.setIfInBounds 1 (.int .i64 (sw + kwj))).setIfInBounds 2 (.int .i64 (su + kuj)) = r3 M (sw + kwj) (su + kuj) := by rw [HR.out]; rfl
              have HRR := Lib.hid hRR
              have hg6 := heap_set (i := 2) (v := .int .i64 (su + kuj)) hg5
              rw [hRR] at hg6
              have hb6 := below_set (i := 2) (v := .int .i64 (su + kuj)) hb5 (Nat.le_refl _)
              clear hRR
              have HG6 := Lib.hid hg6
              clear hg6 hg5 hb14 hb3 hg3 hk3
              go_wp2_with fail
              go_roundg (k - (j + 1))
              case measure => omega
              case rel => exact ⟨j + 1, by omega, rfl, by go_num, by rw [HWn.out, HUn.out, ← HKU.out]; exact HG6.out, by rw [← HKU.out]; exact hb6⟩
            · obtain rfl : j = k := by omega
              have n2 : (r3 M (sW S O m j) (sU S j))[2]? = some (.int .i64 (sU S j)) := rfl
              generalize sW S O m j = sw at *
              generalize sU S j = su at *
              obtain ⟨e4, f4, _⟩ := cells_of hg
              have hs3 := Lib.hid (show ((r3 M sw su).setIfInBounds 2 (.int .i64 (max 0 su))).size = 3 by simp [r3])
              have hx3 := Lib.hid (show ((r3 M sw su).setIfInBounds 2 (.int .i64 (max 0 su))).extract 0 3 = r3 M sw (max 0 su) by rw [extract_all (by simp [r3])]; rfl)
              have h33 := Lib.hid (show (r3 M sw (max 0 su)).size = 3 from rfl)
              have hra := Lib.hid (r3_all M sw (max 0 su))
              have hg5 := heap_set (i := 2) (v := .int .i64 (max 0 su)) hg
              have hb5 := below_set (i := 2) (v := .int .i64 (max 0 su)) hb (Nat.le_refl _)
              have HF2 := Lib.hid (And.intro (show need S O m j = r3 M sw (max 0 su) from HF.out.1) HF.out.2)
              generalize (r3 M sw su).setIfInBounds 2 (.int .i64 (max 0 su)) = R at *
              generalize r3 M sw (max 0 su) = R2 at *
              obtain ⟨x, hx⟩ : ∃ x, x = max 0 su := ⟨_, rfl⟩
              rw [← hx] at hg5 hb5
              by_cases hlu : su < 0
              · obtain rfl : x = 0 := by omega
                clear hx
                go_wp2_with (first | ((with_reducible refine at_load 35 ?_); refine wpList_load_part rfl 35 _ rfl (w.heap.size) (0) rfl _ (R) _ _ 3 (hg5) Try.underlying35 rfl (by kernel_rfl) (by rw [hs3.out]; omega) (R2) (hx3.out) ?_) | ((with_reducible refine at_store 35 ?_); refine wpList_store_over rfl 35 _ _ rfl (w.heap.size) (R2) rfl rfl _ _ (hg5) (by rw [h33.out]; kernel_rfl) (by rw [h33.out]; exact hs3.out) (hra.out) ?_; intro w6 hg6 hs6 ho6 hb6))
                exact post_cell_tmp (g := w.heap.size) (t := 35) rfl rfl rfl rfl hg6 Try.underlying35 rfl (by rw [h33.out]; kernel_rfl) ⟨by rw [HF2.out.1, HF2.out.2]; rfl, hb5.trans (hb6 _ (Nat.le_refl _))⟩
              · by_cases hlv : 0 < su
                · obtain rfl : x = su := by omega
                  clear hx hlu
                  go_wp2_with (first | ((with_reducible refine at_load 35 ?_); refine wpList_load_part rfl 35 _ rfl (w.heap.size) (0) rfl _ (R) _ _ 3 (hg5) Try.underlying35 rfl (by kernel_rfl) (by rw [hs3.out]; omega) (R2) (hx3.out) ?_) | ((with_reducible refine at_store 35 ?_); refine wpList_store_over rfl 35 _ _ rfl (w.heap.size) (R2) rfl rfl _ _ (hg5) (by rw [h33.out]; kernel_rfl) (by rw [h33.out]; exact hs3.out) (hra.out) ?_; intro w6 hg6 hs6 ho6 hb6))
                  exact post_cell_tmp (g := w.heap.size) (t := 35) rfl rfl rfl rfl hg6 Try.underlying35 rfl (by rw [h33.out]; kernel_rfl) ⟨by rw [HF2.out.1, HF2.out.2]; rfl, hb5.trans (hb6 _ (Nat.le_refl _))⟩
                · obtain rfl : su = 0 := by omega
                  obtain rfl : x = 0 := by omega
                  clear hx hlu hlv
                  go_wp2_with (first | ((with_reducible refine at_load 35 ?_); refine wpList_load_part rfl 35 _ rfl (w.heap.size) (0) rfl _ (R) _ _ 3 (hg5) Try.underlying35 rfl (by kernel_rfl) (by rw [hs3.out]; omega) (R2) (hx3.out) ?_) | ((with_reducible refine at_store 35 ?_); refine wpList_store_over rfl 35 _ _ rfl (w.heap.size) (R2) rfl rfl _ _ (hg5) (by rw [h33.out]; kernel_rfl) (by rw [h33.out]; exact hs3.out) (hra.out) ?_; intro w6 hg6 hs6 ho6 hb6))
                  exact post_cell_tmp (g := w.heap.size) (t := 35) rfl rfl rfl rfl hg6 Try.underlying35 rfl (by rw [h33.out]; kernel_rfl) ⟨by rw [HF2.out.1, HF2.out.2]; rfl, hb5.trans (hb6 _ (Nat.le_refl _))⟩
end Go.Proofs.Ytnpjclodcgejgaa
