/- The statement ScanRoutes returns true, whatever comes in. No condition but that the numbers fit their kinds. -/
import Derived.Test.YtodbbcagpfjieaaKnown10
import Derived.Test.YtodbbcagpfjieaaOne
import Derived.Test.YtodbbcagpfjieaaRefM
namespace Go.Proofs.Ytodbbcagpfjieaa
set_option linter.unusedVariables false
set_option linter.unusedSimpArgs false
open Go.RowKit

/-- two rows lie apart -/
def Off (v u : Value) : Prop := ∀ g, v.ownBlock = some g → u.ownBlock ≠ some g
theorem Off.symm {v u : Value} (h : Off v u) : Off u v := fun g h1 h2 => h g h2 h1
theorem Off.row {v u : Value} (h : Off v u) : u.ownBlock = none ∨ u.ownBlock ≠ v.ownBlock := by
  cases hu : u.ownBlock with
  | none => exact .inl rfl
  | some g => exact .inr (fun e => h g e.symm hu)
theorem Off.next {v v' u : Value} {w : World} {base n : Nat} {e : TypeId} {xs : List Value} (h : Off v u) (hu : w.ownsRow base e 26 u n xs) (hv : v'.ownBlock = v.ownBlock ∨ v'.ownBlock = some w.heap.size) : Off v' u := fun g h1 h2 => by
  rcases hv with hv | hv
  · exact h g (hv ▸ h1) h2
  · rw [hv] at h1
    injection h1 with h1
    have := (hu.lt g h2).2
    omega

theorem pk_own {w : World} {base k : Nat} {e : TypeId} {v : Value} {p : Array Value → Bool} {L : Nat → Array Value} (hp : p (L k) = true) (h : w.ownsRow base e 26 v (pkN p L k + 1) (flat (pkF p L k) (pkN p L k) ++ (L k).toList)) :
    w.ownsRow base e 26 v (pkN p L (k + 1)) (flat (pkF p L (k + 1)) (pkN p L (k + 1))) := by
  rw [pkN_s, pkF_s, if_pos hp, if_pos hp, flat_snoc]; exact h
theorem pk_own_not {w : World} {base k : Nat} {e : TypeId} {v : Value} {p : Array Value → Bool} {L : Nat → Array Value} (hp : ¬ p (L k) = true) (h : w.ownsRow base e 26 v (pkN p L k) (flat (pkF p L k) (pkN p L k))) :
    w.ownsRow base e 26 v (pkN p L (k + 1)) (flat (pkF p L (k + 1)) (pkN p L (k + 1))) := by
  rw [pkN_s, pkF_s, if_neg hp, if_neg hp]; exact h

set_option maxRecDepth 100000 in
set_option maxHeartbeats 1000000 in
theorem routes_walk (a : Option Addr) (n cap : Nat) (L : Nat → Array Value) (route : Int) (W : World) (hL : ∀ i, IsLeg (L i)) (hA : Legs W a n L) (hn : n ≤ cap) (hc : cap ≤ 9223372036854775807) (hz : a = none → n = 0 ∧ cap = 0) (hr : 0 ≤ route ∧ route ≤ 255) :
    Calls Try.prog 10 #[.slice a n cap, .int .u8 route] W fun e W' => e = .returned (.bool true) ∧ Below W.heap.size W W' := by
  have cm := margin_any (H := Unit) L a n cap W hL hA (by omega)
  by_cases he : mE L n = 0
  · obtain ⟨hn16, hok, honce, hmn⟩ := mE_ok he
    rw [he, hmn] at cm
    have HL := Lib.hid hL
    have HA := Lib.hid hA
    have HO := Lib.hid hok
    have HN := Lib.hid honce
    clear hL hA hz hok honce he hmn
    have HP := Lib.hid (sum_parts (L := L) route n 9)
    have hbd := sum_bd HL.out n HO.out hn16 9
    generalize hsm : sumTo L n 9 = sm at *
    clear hsm
    go_enter Try.func10, Try.ntmps10
    go_wp2_with fail
    refine cm.mono ?_
    clear cm
    rintro e0 w0 ⟨rfl, hb0⟩
    go_wp2
    go_loopg [7, 8, 24] n (fun gh xa xb i wr => ∃ (k : Nat) (va vb : Value), k ≤ n ∧ gh = n - k ∧ i = .int .i64 k ∧ va = xa ∧ vb = xb ∧ wr.ownsRow W.heap.size 45 26 va (pkN (loR route) L k) (flat (pkF (loR route) L k) (pkN (loR route) L k)) ∧
      wr.ownsRow W.heap.size 45 26 vb (pkN (hiR route) L k) (flat (pkF (hiR route) L k) (pkN (hiR route) L k)) ∧ Off va vb ∧ Below W.heap.size W wr)
    case atStart => exact ⟨0, _, _, by omega, by omega, rfl, rfl, rfl, World.ownsRow_nil _ _ _ _, World.ownsRow_nil _ _ _ _, fun g h => by simp [Value.ownBlock] at h, hb0⟩
    case round =>
      clear hb0
      obtain ⟨k, va, vb, hk, rfl, rfl, rfl, rfl, hoa, hob, hof, hb⟩ := hrel
      by_cases hlt : k < n
      · obtain ⟨g, off, A, t, fr, rfl, hgA, hszA, hexA⟩ := (HA.out.kept hb) k hlt
        have hleg := HL.out k
        have ar' : A[off + k * 26 + 1]? = some (.int .u8 (lr L k)) := by rw [at_ext hexA hszA (by omega)]; exact hleg.c1
        have br := (okLeg_facts hleg (okTo_at HO.out hlt)).2.2.2
        have hcA := cellF hgA
        have HE := Lib.hid hexA
        have HS := Lib.hid hszA
        clear hexA hszA
        have hpa := pk_le (loR route) L k
        have hpb := pk_le (hiR route) L k
        have hbs := hb.size
        by_cases hle : lr L k ≤ route
        · have HP1 := Lib.hid (show loR route (L k) = true from decide_eq_true hle)
          have HP2 := Lib.hid (show ¬ hiR route (L k) = true by unfold hiR; rw [show N (L k) 1 = lr L k from rfl]; simp [hle])
          go_wp2_with (first
            | ((with_reducible refine at_load 45 ?_); refine wpList_load_part rfl 45 _ rfl (g) (off + k * 26) rfl _ (A) _ _ 26 (hgA) Try.underlying45 rfl (by kernel_rfl) (by have := HS.out; omega) (L k) (HE.out) ?_) | ((with_reducible refine at_slice1 42 ?_); refine wpList_slice_leg rfl _ rfl (L k) rfl hleg.size ?_) | ((with_reducible refine at_append 42 ?_); refine wpList_append_one rfl _ _ rfl W.heap.size va (pkN (loR route) L k) _ rfl (hoa.alloc _) wr.heap.size (L k) hleg rfl (heap_alloc_new _ _) (by omega) (by simp; omega) ?_; intro v1 w1 ho1 hg1 hw1))
          go_roundg (n - (k + 1))
          case measure => omega
          case rel => exact ⟨k + 1, _, _, by omega, rfl, by go_num, rfl, rfl, pk_own HP1.out ho1, pk_own_not HP2.out ((hob.alloc _).kept hg1 hof.row), hof.next (hob.alloc _) hw1, (below_then hb (below_new _ _)).grown hg1 (by simp; omega) (fun j hj => (hoa.lt j hj).1)⟩
        · have HP1 := Lib.hid (show ¬ loR route (L k) = true by unfold loR; rw [show N (L k) 1 = lr L k from rfl]; simp; omega)
          have HP2 := Lib.hid (show hiR route (L k) = true by unfold hiR; rw [show N (L k) 1 = lr L k from rfl]; simp; omega)
          go_wp2_with (first
            | ((with_reducible refine at_load 45 ?_); refine wpList_load_part rfl 45 _ rfl (g) (off + k * 26) rfl _ (A) _ _ 26 (hgA) Try.underlying45 rfl (by kernel_rfl) (by have := HS.out; omega) (L k) (HE.out) ?_) | ((with_reducible refine at_slice1 42 ?_); refine wpList_slice_leg rfl _ rfl (L k) rfl hleg.size ?_) | ((with_reducible refine at_append 42 ?_); refine wpList_append_one rfl _ _ rfl W.heap.size vb (pkN (hiR route) L k) _ rfl (hob.alloc _) wr.heap.size (L k) hleg rfl (heap_alloc_new _ _) (by omega) (by simp; omega) ?_; intro v1 w1 ho1 hg1 hw1))
          go_roundg (n - (k + 1))
          case measure => omega
          case rel => exact ⟨k + 1, _, _, by omega, rfl, by go_num, rfl, rfl, pk_own_not HP1.out ((hoa.alloc _).kept hg1 hof.symm.row), pk_own HP2.out ho1, (hof.symm.next (hoa.alloc _) hw1).symm, (below_then hb (below_new _ _)).grown hg1 (by simp; omega) (fun j hj => (hob.lt j hj).1)⟩
      · obtain rfl : k = n := by omega
        have hpa := pk_le (loR route) L k
        have hpb := pk_le (hiR route) L k
        obtain ⟨a1, c1, rfl, hl1⟩ := own_legs (pk_leg HL.out k) hoa
        obtain ⟨a2, c2, rfl, hl2⟩ := own_legs (pk_leg HL.out k) hob
        obtain ⟨m1, m1'⟩ := mE_of (by omega) (pk_ok (p := loR route) k HO.out) (pk_once k HN.out)
        obtain ⟨m2, m2'⟩ := mE_of (by omega) (pk_ok (p := hiR route) k HO.out) (pk_once k HN.out)
        have q1 := margin_any (H := Unit) (pkF (loR route) L k) a1 _ c1 wr (pk_leg HL.out k) hl1 (by omega)
        have q2 := fun w2 hb2 => margin_any (H := Unit) (pkF (hiR route) L k) a2 _ c2 w2 (pk_leg HL.out k) (hl2.kept hb2) (by omega)
        rw [m1, m1'] at q1
        rw [m2, m2'] at q2
        have d1 := sum_bd (pk_leg HL.out k) _ (pk_ok (p := loR route) k HO.out) (by omega) 9
        have d2 := sum_bd (pk_leg HL.out k) _ (pk_ok (p := hiR route) k HO.out) (by omega) 9
        have hp := HP.out
        generalize sumTo (pkF (loR route) L k) (pkN (loR route) L k) 9 = x at *
        generalize sumTo (pkF (hiR route) L k) (pkN (hiR route) L k) 9 = y at *
        clear HP hoa hob hof hl1 hl2 m1 m1' m2 m2'
        subst hp
        go_wp2_with fail
        refine q1.mono ?_
        clear q1
        rintro e1 w1 ⟨rfl, hb1⟩
        go_wp2_with fail
        refine (q2 w1 hb1).mono ?_
        clear q2
        rintro e2 w2 ⟨rfl, hb2⟩
        go_wp2_with (first | (go_at_call 16; (with_reducible refine (known10 _).mono ?_); rintro e w5 ⟨rfl, hb5⟩))
        go_ret
        exact ⟨rfl, below_then (below_then (below_then hb hb1) hb2) hb5⟩
  · have he' : (mE L n == 0) = false := by simpa using he
    generalize mN L n = m at *
    generalize mE L n = e at *
    go_enter Try.func10, Try.ntmps10
    go_wp2_with fail
    refine cm.mono ?_
    clear cm
    rintro e0 w0 ⟨rfl, hb0⟩
    go_wp2_with (first | (go_at_call 16; (with_reducible refine (known10 _).mono ?_); rintro e w5 ⟨rfl, hb5⟩))
    go_ret
    exact ⟨rfl, below_then hb0 hb5⟩
end Go.Proofs.Ytodbbcagpfjieaa
