/- net's smaller methods: Len, at, Tick, Due, and each where there is no net or no room. No condition. -/
import Derived.Test.YtfgcjgabknoamaaSend
namespace Go.Proofs.Ytfgcjgabknoamaa
set_option linter.unusedVariables false
set_option linter.unusedSimpArgs false
open Go.RowKit

theorem send_none (f t : Int) (a : Option Addr) (n c : Nat) (w : World) :
    Calls Try.prog 9 #[.pointer none, .agg (m3 f t (.slice a n c))] w fun e w' => e = .returned (.int .i64 1) ∧ Below w.heap.size w w' := by
  go_enter Try.func9, Try.ntmps9
  go_wp2
  go_ret
  exact ⟨rfl, below_new w _⟩
set_option maxRecDepth 100000 in
theorem send_full (g base k : Nat) (F T Ag : Nat → Int) (S : Nat → Value) (Ln : Nat → Nat) (X : Nat → Nat → Int) (f t : Int) (a : Option Addr) (n c : Nat) (w : World) (hN : NetIs w g base k F T Ag S Ln X) (hn : n ≤ 1048576) (hk : 2000 ≤ k) :
    Calls Try.prog 9 #[.pointer (some ⟨g, 0, none⟩), .agg (m3 f t (.slice a n c))] w fun e w' => e = .returned (.int .i64 9) ∧ Below w.heap.size w w' := by
  obtain ⟨v, hg, hrow⟩ := hN.row
  obtain ⟨ra, rc, rfl, _⟩ := own_rows (c := 4) (fun i => rfl) hrow
  have hb := below_new w (Obj.cells (m3 f t (.slice a n c)) 24)
  have cg := cellF hg
  have cg1 := cellF (heap_up (o := Obj.cells (m3 f t (.slice a n c)) 24) hg)
  have h2 : (m3 f t (.slice a n c))[2]? = some (.slice a n c) := rfl
  generalize m3 f t (.slice a n c) = M at *
  go_enter Try.func9, Try.ntmps9
  go_wp2
  go_ret
  exact ⟨rfl, hb⟩
theorem send_long (g base k : Nat) (F T Ag : Nat → Int) (S : Nat → Value) (Ln : Nat → Nat) (X : Nat → Nat → Int) (f t : Int) (a : Option Addr) (n c : Nat) (w : World) (hN : NetIs w g base k F T Ag S Ln X) (hn : 1048576 < n) :
    Calls Try.prog 9 #[.pointer (some ⟨g, 0, none⟩), .agg (m3 f t (.slice a n c))] w fun e w' => e = .returned (.int .i64 3) ∧ Below w.heap.size w w' := by
  have hb := below_new w (Obj.cells (m3 f t (.slice a n c)) 24)
  have h2 : (m3 f t (.slice a n c))[2]? = some (.slice a n c) := rfl
  generalize m3 f t (.slice a n c) = M at *
  go_enter Try.func9, Try.ntmps9
  go_wp2
  go_ret
  exact ⟨rfl, hb⟩
theorem nlen_none (w : World) : Calls Try.prog 11 #[.pointer none] w fun e w' => e = .returned (.int .i64 0) ∧ w = w' := by
  go_enter Try.func11, Try.ntmps11
  go_wp2
  go_ret
  exact ⟨rfl, rfl⟩
theorem nlen_any (g base k : Nat) (F T Ag : Nat → Int) (S : Nat → Value) (Ln : Nat → Nat) (X : Nat → Nat → Int) (w : World) (hN : NetIs w g base k F T Ag S Ln X) :
    Calls Try.prog 11 #[.pointer (some ⟨g, 0, none⟩)] w fun e w' => e = .returned (.int .i64 k) ∧ w = w' := by
  obtain ⟨v, hg, hrow⟩ := hN.row
  obtain ⟨ra, rc, rfl, _⟩ := own_rows (c := 4) (fun i => rfl) hrow
  have cg := cellF hg
  go_enter Try.func11, Try.ntmps11
  go_wp2
  go_ret
  exact ⟨rfl, rfl⟩
theorem nat_none (i : Int) (w : World) : Calls Try.prog 27 #[.pointer none, .int .i64 i] w fun e w' => e = .returned (.int .i64 1) ∧ w = w' := by
  go_enter Try.func27, Try.ntmps27
  go_wp2
  go_ret
  exact ⟨rfl, rfl⟩
/-- whether there is such a place -/
def atE (k : Nat) (i : Int) : Int := if 0 ≤ i ∧ i < k then 0 else 7
theorem nat_any (g base k : Nat) (F T Ag : Nat → Int) (S : Nat → Value) (Ln : Nat → Nat) (X : Nat → Nat → Int) (i : Int) (w : World) (hN : NetIs w g base k F T Ag S Ln X) :
    Calls Try.prog 27 #[.pointer (some ⟨g, 0, none⟩), .int .i64 i] w fun e w' => e = .returned (.int .i64 (atE k i)) ∧ w = w' := by
  obtain ⟨v, hg, hrow⟩ := hN.row
  obtain ⟨ra, rc, rfl, _⟩ := own_rows (c := 4) (fun i => rfl) hrow
  have cg := cellF hg
  by_cases h0 : i < 0
  · have HE := Lib.hid (show atE k i = 7 by unfold atE; rw [if_neg (by omega)])
    go_enter Try.func27, Try.ntmps27
    go_wp2
    go_ret
    exact ⟨by rw [HE.out]; rfl, rfl⟩
  · by_cases h1 : i < k
    · have HE := Lib.hid (show atE k i = 0 by unfold atE; rw [if_pos (by omega)])
      have h2 : ¬ ((k : Int) ≤ i) := by omega
      go_enter Try.func27, Try.ntmps27
      go_wp2
      go_ret
      exact ⟨by rw [HE.out]; rfl, rfl⟩
    · have HE := Lib.hid (show atE k i = 7 by unfold atE; rw [if_neg (by omega)])
      have h2 : (k : Int) ≤ i := by omega
      go_enter Try.func27, Try.ntmps27
      go_wp2
      go_ret
      exact ⟨by rw [HE.out]; rfl, rfl⟩
/-- the first one that is so old -/
def du (Ag : Nat → Int) (x : Int) : Nat → Int
  | 0 => -1
  | n + 1 => if 0 ≤ du Ag x n then du Ag x n else if x ≤ Ag n then n else -1
theorem du_stay {Ag : Nat → Int} {x : Int} {j : Nat} (h : 0 ≤ du Ag x j) : ∀ m, j ≤ m → du Ag x m = du Ag x j := fun m hm => by
  induction m with
  | zero => have : j = 0 := by omega
            subst this; rfl
  | succ m ih =>
    by_cases e : j = m + 1
    · subst e; rfl
    · have := ih (by omega)
      rw [du, this, if_pos h]
theorem du_hit {Ag : Nat → Int} {x : Int} {j k : Nat} (h : du Ag x j = -1) (hx : x ≤ Ag j) (hk : j < k) : du Ag x k = j := by
  have h1 : du Ag x (j + 1) = j := by rw [du, h, if_neg (by omega), if_pos hx]
  rw [du_stay (j := j + 1) (by rw [h1]; omega) k (by omega), h1]
theorem du_next {Ag : Nat → Int} {x : Int} {j : Nat} (h : du Ag x j = -1) (hx : ¬ x ≤ Ag j) : du Ag x (j + 1) = -1 := by rw [du, h, if_neg (by omega), if_neg hx]
theorem du_bd {Ag : Nat → Int} {x : Int} : ∀ k, -1 ≤ du Ag x k ∧ du Ag x k < k
  | 0 => by simp [du]
  | k + 1 => by
    have := du_bd (Ag := Ag) (x := x) k
    rw [du]
    by_cases h1 : 0 ≤ du Ag x k
    · rw [if_pos h1]; omega
    · rw [if_neg h1]
      by_cases h2 : x ≤ Ag k
      · rw [if_pos h2]; omega
      · rw [if_neg h2]; omega
theorem du1_any (f t : Int) (v : Value) (ag x : Int) (gx : Nat) (w : World) (hx : w.heap[gx]? = some (.cells #[.int .u64 x] 34 (0, 0))) :
    Calls Try.prog 29 #[.agg (p4 f t v ag), .pointer (some ⟨gx, 0, none⟩)] w fun e w' => e = .returned (.bool (decide (x ≤ ag))) ∧ Below w.heap.size w w' := by
  have hb := below_new w (Obj.cells (p4 f t v ag) 60)
  have cx := cellF (heap_up (o := Obj.cells (p4 f t v ag) 60) hx)
  have h3 : (p4 f t v ag)[3]? = some (.int .u64 ag) := rfl
  generalize p4 f t v ag = M at *
  go_enter Try.func29, Try.ntmps29
  go_wp2
  go_ret
  exact ⟨rfl, hb⟩
set_option maxHeartbeats 1000000 in
theorem idxf_any (ra : Option Addr) (rc k : Nat) (F T Ag : Nat → Int) (S : Nat → Value) (x : Int) (gx : Nat) (w : World) (hR : RowsT w 60 4 ra k (fun i => p4 (F i) (T i) (S i) (Ag i))) (hk : k ≤ 2000) (hx : w.heap[gx]? = some (.cells #[.int .u64 x] 34 (0, 0))) :
    Calls Try.prog 28 #[.slice ra k rc, .func (.func 29) #[] #[.pointer (some ⟨gx, 0, none⟩)]] w fun e w' => e = .returned (.int .i64 (du Ag x k)) ∧ Below w.heap.size w w' := by
  have HR := Lib.hid hR
  clear hR
  go_enter Try.func28, Try.ntmps28
  go_wp2
  go_loopg [8] k (fun gh i wr => ∃ j : Nat, j ≤ k ∧ gh = k - j ∧ i = .int .i64 j ∧ du Ag x j = -1 ∧ Below w.heap.size w wr)
  case atStart => exact ⟨0, by omega, by omega, rfl, rfl, Below.refl _ _⟩
  case round =>
    obtain ⟨j, hj, rfl, rfl, hdu, hb⟩ := hrel
    have HD := Lib.hid hdu
    clear hdu
    by_cases hlt : j < k
    · obtain ⟨gb, off, A, fr, rfl, hgA, hszA, hexA⟩ := HR.out j hlt
      have hgA2 := Ytfgcjgabknoamaa.kept hb hgA
      have hx2 := Ytfgcjgabknoamaa.kept hb hx
      have HX := Lib.hid (show A.extract (off + j * 4) (off + j * 4 + 4) = p4 (F j) (T j) (S j) (Ag j) from hexA)
      have HZ := Lib.hid hszA
      clear hexA hszA
      have cc := fun v w2 h2 => du1_any (F j) (T j) v (Ag j) x gx w2 h2
      by_cases hxa : x ≤ Ag j
      · have HV := Lib.hid (du_hit HD.out hxa hlt)
        go_wp2_with (first | ((with_reducible refine at_load 60 ?_); refine wpList_load_part rfl 60 _ rfl (gb) (off + j * 4) rfl _ (A) _ _ 4 (hgA2) Try.underlying60 rfl (by kernel_rfl) (by have := HZ.out; omega) (p4 (F j) (T j) (S j) (Ag j)) (HX.out) ?_) | (go_at_call 29; (with_reducible refine (cc _ _ (by exact hx2)).mono ?_); rintro e w1 ⟨rfl, hb1⟩))
        go_ret
        exact ⟨by rw [HV.out]; rfl, below_then hb hb1⟩
      · have HV := Lib.hid (du_next HD.out hxa)
        go_wp2_with (first | ((with_reducible refine at_load 60 ?_); refine wpList_load_part rfl 60 _ rfl (gb) (off + j * 4) rfl _ (A) _ _ 4 (hgA2) Try.underlying60 rfl (by kernel_rfl) (by have := HZ.out; omega) (p4 (F j) (T j) (S j) (Ag j)) (HX.out) ?_) | (go_at_call 29; (with_reducible refine (cc _ _ (by exact hx2)).mono ?_); rintro e w1 ⟨rfl, hb1⟩))
        go_roundg (k - (j + 1))
        case measure => omega
        case rel => exact ⟨j + 1, by omega, rfl, by go_num, HV.out, below_then hb hb1⟩
    · obtain rfl : j = k := by omega
      go_wp2
      go_ret
      exact ⟨by rw [HD.out]; rfl, hb⟩
/-- what Due answers -/
def duN (Ag : Nat → Int) (x : Int) (k : Nat) : Int := if du Ag x k < 0 then 0 else du Ag x k
def duE (Ag : Nat → Int) (x : Int) (k : Nat) : Int := if du Ag x k < 0 then 7 else 0
theorem due_none (x : Int) (w : World) : Calls Try.prog 12 #[.pointer none, .int .u64 x] w fun e w' => e = .returned (.tuple #[.int .i64 0, .int .i64 1]) ∧ Below w.heap.size w w' := by
  have hb := below_new w (Obj.cells #[.int .u64 x] 34)
  go_enter Try.func12, Try.ntmps12
  go_wp2
  go_ret2
  exact ⟨rfl, hb⟩
set_option maxHeartbeats 1000000 in
theorem due_any (g base k : Nat) (F T Ag : Nat → Int) (S : Nat → Value) (Ln : Nat → Nat) (X : Nat → Nat → Int) (x : Int) (w : World) (hN : NetIs w g base k F T Ag S Ln X) :
    Calls Try.prog 12 #[.pointer (some ⟨g, 0, none⟩), .int .u64 x] w fun e w' => e = .returned (.tuple #[.int .i64 (duN Ag x k), .int .i64 (duE Ag x k)]) ∧ Below w.heap.size w w' := by
  obtain ⟨v, hg, hrow⟩ := hN.row
  obtain ⟨ra, rc, rfl, hR, _⟩ := own_rows (c := 4) (fun i => rfl) hrow
  have hb := below_new w (Obj.cells #[.int .u64 x] 34)
  have cg := cellF (heap_up (o := Obj.cells #[.int .u64 x] 34) hg)
  have ci := idxf_any ra rc k F T Ag S x w.heap.size _ (rowsT_kept hR (below_new w (Obj.cells #[.int .u64 x] 34))) hN.hk (heap_alloc_new _ _)
  have h0 := du_bd (Ag := Ag) (x := x) k
  have HN := Lib.hid (show duN Ag x k = if du Ag x k < 0 then 0 else du Ag x k from rfl)
  have HE := Lib.hid (show duE Ag x k = if du Ag x k < 0 then 7 else 0 from rfl)
  have hmf : ∀ (fn : Fn) (first cap : Array Value) (w : World), (Instr.makeFunc fn first cap).run Try.prog w = .ok (.func fn first cap) w := fun _ _ _ _ => rfl
  generalize du Ag x k = dv at *
  by_cases hd : dv < 0
  · go_enter Try.func12, Try.ntmps12
    go_wp2_with ((go_at_call 28; (with_reducible refine (ci).mono ?_); rintro e w1 ⟨rfl, hb1⟩))
    go_ret2
    exact ⟨by rw [HN.out, HE.out, if_pos hd, if_pos hd]; rfl, below_then hb hb1⟩
  · go_enter Try.func12, Try.ntmps12
    go_wp2_with ((go_at_call 28; (with_reducible refine (ci).mono ?_); rintro e w1 ⟨rfl, hb1⟩))
    go_ret2
    exact ⟨by rw [HN.out, HE.out, if_neg (by omega), if_neg (by omega)]; rfl, below_then hb hb1⟩
theorem new_net (w : World) : Calls Try.prog 8 #[] w fun e w' => e = .returned (.pointer (some ⟨w.heap.size, 0, none⟩)) ∧ NetIs w' w.heap.size w.heap.size 0 (fun _ => 0) (fun _ => 0) (fun _ => 0) (fun _ => .slice none 0 0) (fun _ => 0) (fun _ _ => 0) ∧ Below w.heap.size w w' := by
  go_enter Try.func8, Try.ntmps8
  go_wp2
  go_ret
  refine ⟨rfl, ⟨⟨_, heap_alloc_new _ _, World.ownsRow_nil _ _ _ _⟩, fun i hi => by omega, fun i => ⟨_, _, _, rfl⟩, Nat.le_refl _, fun i hi => by omega, fun i hi => by omega, by omega⟩, below_new _ _⟩
end Go.Proofs.Ytfgcjgabknoamaa
