/- A side that was made: its state, and the methods that ask. Condition: the side is one. -/
import Derived.Test.YtmjfbilhalkegaaSideNo
namespace Go.Proofs.Ytmjfbilhalkegaa
set_option linter.unusedVariables false
set_option linter.unusedSimpArgs false
open Go.RowKit

structure IsOrd (A : Array Value) : Prop where
  size : A.size = 5
  n : IsN A .u64 0
  a : IsN A .u32 1
  b : IsB A 2
  p : IsN A .i64 3
  l : IsN A .i64 4
theorem IsOrd.all {A : Array Value} (h : IsOrd A) : A.all (·.oneCell') = true := all_one fun i v hv => by
  have hi : i < 5 := by have := (Array.getElem?_eq_some_iff.1 hv).1; have := h.size; omega
  have : i = 0 ∨ i = 1 ∨ i = 2 ∨ i = 3 ∨ i = 4 := by omega
  rcases this with rfl | rfl | rfl | rfl | rfl
  · exact h.n.one hv
  · exact h.a.one hv
  · exact h.b.one hv
  · exact h.p.one hv
  · exact h.l.one hv
/-- the first of the first k that is so, or -1 -/
def fi (q : Nat → Bool) : Nat → Int
  | 0 => -1
  | k + 1 => if 0 ≤ fi q k then fi q k else if q k then k else -1
theorem fi_stay {q : Nat → Bool} {j : Nat} (h : 0 ≤ fi q j) : ∀ k, j ≤ k → fi q k = fi q j := fun k hk => by
  induction k with
  | zero => have : j = 0 := by omega
            subst this; rfl
  | succ m ih =>
    by_cases e : j = m + 1
    · subst e; rfl
    · have := ih (by omega)
      rw [fi, this, if_pos h]
theorem fi_hit {q : Nat → Bool} {j k : Nat} (h : fi q j = -1) (hx : q j = true) (hk : j < k) : fi q k = j := by
  have h1 : fi q (j + 1) = j := by rw [fi, h, if_neg (by omega), if_pos hx]
  rw [fi_stay (j := j + 1) (by rw [h1]; omega) k (by omega), h1]
theorem fi_next {q : Nat → Bool} {j : Nat} (h : fi q j = -1) (hx : q j = false) : fi q (j + 1) = -1 := by rw [fi, h, if_neg (by omega), if_neg (by rw [hx]; decide)]
theorem fi_bd {q : Nat → Bool} : ∀ k, -1 ≤ fi q k ∧ fi q k < k
  | 0 => by simp [fi]
  | k + 1 => by
    have := fi_bd (q := q) k
    rw [fi]
    split
    · omega
    · split <;> omega
/-- at the first, all before are not so -/
theorem fi_none {q : Nat → Bool} : ∀ k, fi q k = -1 → ∀ j, j < k → q j = false
  | 0, _, j, hj => by omega
  | k + 1, h, j, hj => by
    rw [fi] at h
    split at h
    · omega
    · rename_i h1
      split at h
      · omega
      · rename_i h2
        have := fi_bd (q := q) k
        by_cases e : j = k
        · subst e; exact Bool.eq_false_iff.2 h2
        · exact fi_none k (by omega) j (by omega)
theorem fi_at {q : Nat → Bool} : ∀ k, ∀ i : Nat, fi q k = i → i < k ∧ q i = true ∧ ∀ j, j < i → q j = false
  | 0, i, h => by rw [fi] at h; omega
  | k + 1, i, h => by
    rw [fi] at h
    split at h
    · obtain ⟨h1, h2⟩ := fi_at k i h
      exact ⟨by omega, h2⟩
    · rename_i h1
      split at h
      · rename_i h2
        have e : k = i := by omega
        subst e
        exact ⟨by omega, h2, fi_none k (by have := fi_bd (q := q) k; omega)⟩
      · omega

structure SideIs (w : World) (g base k : Nat) (buy : Bool) (L : Nat → Array Value) : Prop where
  row : ∃ v, w.heap[g]? = some (.cells #[.bool true, .bool buy, v] 77 (0, 0)) ∧ w.ownsRow base 30 5 v k (flat L k)
  ord : ∀ i, IsOrd (L i)
  bg : base ≤ g
  hk : k ≤ 1000
theorem SideIs.kept {w w' : World} {g base k : Nat} {buy : Bool} {L : Nat → Array Value} (h : SideIs w g base k buy L) (hb : Below w.heap.size w w') : SideIs w' g base k buy L := by
  obtain ⟨v, hg, hr⟩ := h.row
  exact ⟨⟨v, Ytmjfbilhalkegaa.kept hb hg, own_below hb hr⟩, h.ord, h.bg, h.hk⟩
theorem sready_yes {w : World} {g base k : Nat} {buy : Bool} {L : Nat → Array Value} (h : SideIs w g base k buy L) : Calls Try.prog 39 #[.pointer (some ⟨g, 0, none⟩)] w fun e w' => e = .returned (.bool true) ∧ w = w' := by
  obtain ⟨v, hg, _⟩ := h.row
  have cg := cellF hg
  go_enter Try.func39, Try.ntmps39
  go_wp2
  go_ret
  exact ⟨rfl, rfl⟩
theorem new_side (b : Bool) (w : World) : Calls Try.prog 23 #[.bool b] w fun e w' => e = .returned (.pointer (some ⟨w.heap.size, 0, none⟩)) ∧ SideIs w' w.heap.size w.heap.size 0 b (fun _ => zo) ∧ Below w.heap.size w w' := by
  go_enter Try.func23, Try.ntmps23
  go_wp2
  go_ret
  exact ⟨rfl, ⟨⟨_, heap_alloc_new _ _, World.ownsRow_nil _ _ _ _⟩, fun _ => ⟨rfl, IsN_of rfl (by decide), IsN_of rfl (by decide), IsB_of rfl, IsN_of rfl (by decide), IsN_of rfl (by decide)⟩, Nat.le_refl _, by omega⟩, below_new _ _⟩
theorem slen_yes {w : World} {g base k : Nat} {buy : Bool} {L : Nat → Array Value} (h : SideIs w g base k buy L) : Calls Try.prog 30 #[.pointer (some ⟨g, 0, none⟩)] w fun e w' => e = .returned (.int .i64 k) ∧ w = w' := by
  have cr := sready_yes h
  obtain ⟨v, hg, hrow⟩ := h.row
  obtain ⟨ra, rc, rfl, _⟩ := own_rows (c := 5) (fun i => (h.ord i).size) hrow
  have cg := cellF hg
  clear h hrow
  go_enter Try.func30, Try.ntmps30
  go_wp2_with ((go_at_call 39; (with_reducible refine (cr).mono ?_); rintro e w1 ⟨rfl, rfl⟩))
  go_ret
  exact ⟨rfl, rfl⟩
/-- the better price -/
def bet (buy : Bool) (x y : Int) : Bool := if buy then decide (y < x) else decide (x < y)
theorem better_any {w : World} {g : Nat} {buy : Bool} {v : Value} (x y : Int) (hg : w.heap[g]? = some (.cells #[.bool true, .bool buy, v] 77 (0, 0))) : Calls Try.prog 38 #[.pointer (some ⟨g, 0, none⟩), .int .i64 x, .int .i64 y] w fun e w' => e = .returned (.bool (bet buy x y)) ∧ w = w' := by
  have cg := cellF hg
  have HB := Lib.hid (show bet buy x y = if buy then decide (y < x) else decide (x < y) from rfl)
  cases buy
  · go_enter Try.func38, Try.ntmps38
    go_wp2
    go_ret
    exact ⟨by rw [HB.out]; rfl, rfl⟩
  · go_enter Try.func38, Try.ntmps38
    go_wp2
    go_ret
    exact ⟨by rw [HB.out]; rfl, rfl⟩
theorem at1_any (M : Array Value) (hM : IsOrd M) (x : Int) (gx : Nat) (w : World) (hx : w.heap[gx]? = some (.cells #[.int .u64 x] 27 (0, 0))) :
    Calls Try.prog 52 #[.agg M, .pointer (some ⟨gx, 0, none⟩)] w fun e w' => e = .returned (.bool (decide (N M 0 = x))) ∧ Below w.heap.size w w' := by
  have hb := below_new w (Obj.cells M 30)
  have cx := cellF (heap_up (o := Obj.cells M 30) hx)
  have h0 := hM.n.1
  clear hM
  generalize N M 0 = y at *
  go_enter Try.func52, Try.ntmps52
  go_wp2
  go_ret
  exact ⟨by first | rfl | (simp; rfl), hb⟩
theorem add1_any (M B : Array Value) (hM : IsOrd M) (hB : IsOrd B) (buy : Bool) (v : Value) (g gs go : Nat) (w : World) (hs : w.heap[gs]? = some (.cells #[.pointer (some ⟨g, 0, none⟩)] 54 (0, 0))) (ho : w.heap[go]? = some (.cells B 30 (0, 0))) (hg : w.heap[g]? = some (.cells #[.bool true, .bool buy, v] 77 (0, 0))) :
    Calls Try.prog 50 #[.agg M, .pointer (some ⟨gs, 0, none⟩), .pointer (some ⟨go, 0, none⟩)] w fun e w' => e = .returned (.bool (bet buy (N B 3) (N M 3))) ∧ Below w.heap.size w w' := by
  have hb := below_new w (Obj.cells M 30)
  have cs := cellF (heap_up (o := Obj.cells M 30) hs)
  have co := cellF (heap_up (o := Obj.cells M 30) ho)
  have cb := better_any (N B 3) (N M 3) (heap_up (o := Obj.cells M 30) hg)
  have h0 := hM.p.1
  have h1 := hB.p.1
  clear hM hB
  generalize N M 3 = y at *
  generalize N B 3 = z at *
  go_enter Try.func50, Try.ntmps50
  go_wp2_with ((go_at_call 38; (with_reducible refine (cb).mono ?_); rintro e w1 ⟨rfl, rfl⟩))
  go_ret
  exact ⟨rfl, hb⟩
set_option maxHeartbeats 1000000 in
theorem idxat_any (ra : Option Addr) (rc k : Nat) (L : Nat → Array Value) (x : Int) (gx : Nat) (w : World) (hL : ∀ i, IsOrd (L i)) (hR : RowsT w 30 5 ra k L) (hk : k ≤ 2000) (hx : w.heap[gx]? = some (.cells #[.int .u64 x] 27 (0, 0))) :
    Calls Try.prog 49 #[.slice ra k rc, .func (.func 52) #[] #[.pointer (some ⟨gx, 0, none⟩)]] w fun e w' => e = .returned (.int .i64 (fi (fun i => decide (N (L i) 0 = x)) k)) ∧ Below w.heap.size w w' := by
  have HR := Lib.hid hR
  have HL := Lib.hid hL
  clear hR hL
  obtain ⟨Q, hQ⟩ : ∃ Q : Nat → Bool, Q = fun i => decide (N (L i) 0 = x) := ⟨_, rfl⟩
  rw [← hQ]
  have HQ := Lib.hid hQ
  clear hQ
  go_enter Try.func49, Try.ntmps49
  go_wp2
  go_loopg [8] k (fun gh i wr => ∃ j : Nat, j ≤ k ∧ gh = k - j ∧ i = .int .i64 j ∧ fi Q j = -1 ∧ Below w.heap.size w wr)
  case atStart => exact ⟨0, by omega, by omega, rfl, rfl, Below.refl _ _⟩
  case round =>
    obtain ⟨j, hj, rfl, rfl, hdu, hb⟩ := hrel
    have HD := Lib.hid hdu
    clear hdu
    by_cases hlt : j < k
    · obtain ⟨gb, off, A, fr, rfl, hgA, hszA, hexA⟩ := HR.out j hlt
      have hgA2 := Ytmjfbilhalkegaa.kept hb hgA
      have hx2 := Ytmjfbilhalkegaa.kept hb hx
      have HX := Lib.hid hexA
      have HZ := Lib.hid hszA
      have HQj := Lib.hid (show Q j = decide (N (L j) 0 = x) by rw [HQ.out])
      clear hexA hszA
      have cc := at1_any (L j) (HL.out j) x gx _ hx2
      rw [← HQj.out] at cc
      have hone := Lib.hid (HL.out j)
      generalize L j = M at *
      cases hq : Q j
      · rw [hq] at cc
        have HV := Lib.hid (fi_next HD.out hq)
        clear hq
        go_wp2_with (first | ((with_reducible refine at_load 30 ?_); refine wpList_load_part rfl 30 _ rfl (gb) (off + j * 5) rfl _ (A) _ _ 5 (hgA2) Try.underlying30 rfl (by kernel_rfl) (by have := HZ.out; omega) (M) (HX.out) ?_) | (go_at_call 52; (with_reducible refine (cc).mono ?_); rintro e w1 ⟨rfl, hb1⟩))
        go_roundg (k - (j + 1))
        case measure => omega
        case rel => exact ⟨j + 1, by omega, rfl, by go_num, HV.out, below_then hb hb1⟩
      · rw [hq] at cc
        have HV := Lib.hid (fi_hit HD.out hq hlt)
        clear hq
        go_wp2_with (first | ((with_reducible refine at_load 30 ?_); refine wpList_load_part rfl 30 _ rfl (gb) (off + j * 5) rfl _ (A) _ _ 5 (hgA2) Try.underlying30 rfl (by kernel_rfl) (by have := HZ.out; omega) (M) (HX.out) ?_) | (go_at_call 52; (with_reducible refine (cc).mono ?_); rintro e w1 ⟨rfl, hb1⟩))
        go_ret
        exact ⟨by rw [HV.out]; rfl, below_then hb hb1⟩
    · obtain rfl : j = k := by omega
      go_wp2
      go_ret
      exact ⟨by rw [HD.out]; rfl, hb⟩
set_option maxHeartbeats 1000000 in
theorem idxadd_any (ra : Option Addr) (rc k : Nat) (L : Nat → Array Value) (B : Array Value) (hB : IsOrd B) (buy : Bool) (v : Value) (g gs go : Nat) (w : World) (hL : ∀ i, IsOrd (L i)) (hR : RowsT w 30 5 ra k L) (hk : k ≤ 2000) (hs : w.heap[gs]? = some (.cells #[.pointer (some ⟨g, 0, none⟩)] 54 (0, 0))) (ho : w.heap[go]? = some (.cells B 30 (0, 0))) (hg : w.heap[g]? = some (.cells #[.bool true, .bool buy, v] 77 (0, 0))) :
    Calls Try.prog 49 #[.slice ra k rc, .func (.func 50) #[] #[.pointer (some ⟨gs, 0, none⟩), .pointer (some ⟨go, 0, none⟩)]] w fun e w' => e = .returned (.int .i64 (fi (fun i => bet buy (N B 3) (N (L i) 3)) k)) ∧ Below w.heap.size w w' := by
  have HR := Lib.hid hR
  have HL := Lib.hid hL
  clear hR hL
  obtain ⟨Q, hQ⟩ : ∃ Q : Nat → Bool, Q = fun i => bet buy (N B 3) (N (L i) 3) := ⟨_, rfl⟩
  rw [← hQ]
  have HQ := Lib.hid hQ
  clear hQ
  go_enter Try.func49, Try.ntmps49
  go_wp2
  go_loopg [8] k (fun gh i wr => ∃ j : Nat, j ≤ k ∧ gh = k - j ∧ i = .int .i64 j ∧ fi Q j = -1 ∧ Below w.heap.size w wr)
  case atStart => exact ⟨0, by omega, by omega, rfl, rfl, Below.refl _ _⟩
  case round =>
    obtain ⟨j, hj, rfl, rfl, hdu, hb⟩ := hrel
    have HD := Lib.hid hdu
    clear hdu
    by_cases hlt : j < k
    · obtain ⟨gb, off, A, fr, rfl, hgA, hszA, hexA⟩ := HR.out j hlt
      have hgA2 := Ytmjfbilhalkegaa.kept hb hgA
      have hs2 := Ytmjfbilhalkegaa.kept hb hs
      have ho2 := Ytmjfbilhalkegaa.kept hb ho
      have hg2 := Ytmjfbilhalkegaa.kept hb hg
      have HX := Lib.hid hexA
      have HZ := Lib.hid hszA
      have HQj := Lib.hid (show Q j = bet buy (N B 3) (N (L j) 3) by rw [HQ.out])
      clear hexA hszA
      have cc := add1_any (L j) B (HL.out j) hB buy v g gs go _ hs2 ho2 hg2
      rw [← HQj.out] at cc
      have hone := Lib.hid (HL.out j)
      generalize L j = M at *
      cases hq : Q j
      · rw [hq] at cc
        have HV := Lib.hid (fi_next HD.out hq)
        clear hq
        go_wp2_with (first | ((with_reducible refine at_load 30 ?_); refine wpList_load_part rfl 30 _ rfl (gb) (off + j * 5) rfl _ (A) _ _ 5 (hgA2) Try.underlying30 rfl (by kernel_rfl) (by have := HZ.out; omega) (M) (HX.out) ?_) | (go_at_call 50; (with_reducible refine (cc).mono ?_); rintro e w1 ⟨rfl, hb1⟩))
        go_roundg (k - (j + 1))
        case measure => omega
        case rel => exact ⟨j + 1, by omega, rfl, by go_num, HV.out, below_then hb hb1⟩
      · rw [hq] at cc
        have HV := Lib.hid (fi_hit HD.out hq hlt)
        clear hq
        go_wp2_with (first | ((with_reducible refine at_load 30 ?_); refine wpList_load_part rfl 30 _ rfl (gb) (off + j * 5) rfl _ (A) _ _ 5 (hgA2) Try.underlying30 rfl (by kernel_rfl) (by have := HZ.out; omega) (M) (HX.out) ?_) | (go_at_call 50; (with_reducible refine (cc).mono ?_); rintro e w1 ⟨rfl, hb1⟩))
        go_ret
        exact ⟨by rw [HV.out]; rfl, below_then hb hb1⟩
    · obtain rfl : j = k := by omega
      go_wp2
      go_ret
      exact ⟨by rw [HD.out]; rfl, hb⟩
theorem sat_any {w : World} {g base k : Nat} {buy : Bool} {L : Nat → Array Value} (x : Int) (h : SideIs w g base k buy L) : Calls Try.prog 48 #[.pointer (some ⟨g, 0, none⟩), .int .u64 x] w fun e w' => e = .returned (.int .i64 (fi (fun i => decide (N (L i) 0 = x)) k)) ∧ Below w.heap.size w w' := by
  obtain ⟨v, hg, hrow⟩ := h.row
  obtain ⟨ra, rc, rfl, hR, _⟩ := own_rows (c := 5) (fun i => (h.ord i).size) hrow
  have hb := below_new w (Obj.cells #[.int .u64 x] 27)
  have cg := cellF (heap_up (o := Obj.cells #[.int .u64 x] 27) hg)
  have ci := idxat_any ra rc k L x w.heap.size _ h.ord (rowsT_kept hR hb) (by have := h.hk; omega) (heap_alloc_new w (Obj.cells #[.int .u64 x] 27))
  have hmf : ∀ (fn : Fn) (first cap : Array Value) (w : World), (Instr.makeFunc fn first cap).run Try.prog w = .ok (.func fn first cap) w := fun _ _ _ _ => rfl
  clear h hR hrow
  go_enter Try.func48, Try.ntmps48
  go_wp2_with ((go_at_call 49; (with_reducible refine (ci).mono ?_); rintro e w1 ⟨rfl, hb1⟩))
  go_ret
  exact ⟨rfl, below_then hb hb1⟩
end Go.Proofs.Ytmjfbilhalkegaa
