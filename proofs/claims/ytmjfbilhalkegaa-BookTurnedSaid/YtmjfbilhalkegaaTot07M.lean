/- The law's total: how much is left, of all that buy, and of all that sell, walked. Condition: the orders fit their kinds. -/
import Derived.Test.YtmjfbilhalkegaaWhlP07M
import Derived.Test.YtmjfbilhalkegaaMgUncLaw0717
namespace Go.Proofs.Ytmjfbilhalkegaa
set_option linter.unusedVariables false
set_option linter.unusedSimpArgs false
open Go.RowKit Go.Deep

/-- what those have left of the first i that buy (b), or sell -/
def tQ (b : Bool) (L : Nat → Array Value) : Nat → Int
  | 0 => 0
  | i + 1 => if Bo (L i) 2 = b then wrap64 (tQ b L i + N (L i) 4) else tQ b L i
theorem tQ_yes {b : Bool} {L : Nat → Array Value} {i : Nat} (h : Bo (L i) 2 = b) : tQ b L (i + 1) = wrap64 (tQ b L i + N (L i) 4) := if_pos h
theorem tQ_no {b : Bool} {L : Nat → Array Value} {i : Nat} (h : Bo (L i) 2 ≠ b) : tQ b L (i + 1) = tQ b L i := if_neg h
set_option maxRecDepth 100000 in
set_option maxHeartbeats 4000000 in
theorem total_rows {w : World} (a : Option Addr) (n cap : Nat) (L : Nat → Array Value) (hL : ∀ i, IsOrd (L i)) (hR : RowsC w 5 a n L) (hn : n ≤ 100000) :
    Calls Try.prog 15 #[.slice a n cap] w fun e w' => e = .returned (.tuple #[.int .i64 (tQ true L n), .int .i64 (tQ false L n)]) ∧ w = w' := by
  have HR := Lib.hid hR
  have HL := Lib.hid hL
  clear hR hL
  go_enter Try.func15, Try.ntmps15
  go_wp2
  go_loopg [2, 3, 7] n (fun gh v2 v3 vi wx => ∃ i : Nat, i ≤ n ∧ gh = n - i ∧ vi = .int .i64 i ∧ v2 = .int .i64 (tQ true L i) ∧ v3 = .int .i64 (tQ false L i) ∧ w = wx)
  case atStart => exact ⟨0, by omega, by omega, rfl, rfl, rfl, rfl⟩
  case round =>
    obtain ⟨i, hi, rfl, rfl, rfl, rfl, rfl⟩ := hrel
    by_cases hi : i < n
    · have hii : (i : Int) < (n : Int) := by omega
      obtain ⟨gL, oL, BL, tL, fL, rfl, hgL, hcL⟩ := rowsC_one HR.out (by omega) (fun i => (HL.out i).size)
      have e2 := hcL i hi 2 (by omega)
      have e4 := hcL i hi 4 (by omega)
      rw [(HL.out i).b] at e2
      rw [(HL.out i).l.1] at e4
      have cc := cellF hgL
      have hn2 : (n : Int) ≤ 100000 := by omega
      have HTY := Lib.hid (fun b (h : Bo (L i) 2 = b) => tQ_yes (L := L) h)
      have HTN := Lib.hid (fun b (h : Bo (L i) 2 ≠ b) => tQ_no (L := L) h)
      clear hcL hgL
      generalize N (L i) 4 = q at *
      generalize Bo (L i) 2 = b at *
      cases b
      · have h1 := HTY.out false rfl
        have h2 := HTN.out true (by decide)
        have H1 := Lib.hid h1
        have H2 := Lib.hid h2
        clear h1 h2 HTY HTN
        go_wp2
        go_roundg (n - (i + 1))
        case measure => omega
        case rel => exact ⟨i + 1, by omega, rfl, by go_num, by rw [H2.out], by rw [H1.out], rfl⟩
      · have h1 := HTY.out true rfl
        have h2 := HTN.out false (by decide)
        have H1 := Lib.hid h1
        have H2 := Lib.hid h2
        clear h1 h2 HTY HTN
        go_wp2
        go_roundg (n - (i + 1))
        case measure => omega
        case rel => exact ⟨i + 1, by omega, rfl, by go_num, by rw [H1.out], by rw [H2.out], rfl⟩
    · obtain rfl : i = n := by omega
      go_wp2
      go_ret2
      exact ⟨rfl, rfl⟩
/-- all that a list has left -/
def lQ (l : List Od) : Int := (l.map Od.q).sum
theorem lQ_nil : lQ [] = 0 := rfl
theorem lQ_cons (x : Od) (l : List Od) : lQ (x :: l) = x.q + lQ l := by simp [lQ]
theorem lQ_app (l1 l2 : List Od) : lQ (l1 ++ l2) = lQ l1 + lQ l2 := by simp [lQ]
theorem lQ_bd : ∀ {l : List Od}, Good l → 0 ≤ lQ l ∧ lQ l ≤ (l.length : Int) * 1000000
  | [], _ => ⟨by simp [lQ], by simp [lQ]⟩
  | x :: r, h => by
    have h1 := lQ_bd h.tail
    have h2 := h.q (x := x) (by simp)
    rw [lQ_cons]
    simp only [List.length_cons]
    push_cast
    omega
/-- of those of one flag -/
def fQ (b : Bool) : List Od → Int
  | [] => 0
  | x :: r => (if x.b = b then x.q else 0) + fQ b r
theorem fQ_app (b : Bool) : ∀ l1 l2 : List Od, fQ b (l1 ++ l2) = fQ b l1 + fQ b l2
  | [], l2 => by show fQ b l2 = 0 + fQ b l2; omega
  | x :: r, l2 => by show _ + fQ b (r ++ l2) = _ + fQ b r + fQ b l2; rw [fQ_app b r l2]; omega
theorem fQ_bd {b : Bool} : ∀ {l : List Od}, Good l → 0 ≤ fQ b l ∧ fQ b l ≤ (l.length : Int) * 1000000
  | [], _ => ⟨by show (0:Int) ≤ 0; omega, by simp [fQ]⟩
  | x :: r, h => by
    have h1 := fQ_bd (b := b) h.tail
    have h2 := h.q (x := x) (by simp)
    unfold fQ
    simp only [List.length_cons]
    push_cast
    split <;> omega
theorem fQ_all {b : Bool} : ∀ {l : List Od}, (∀ x, x ∈ l → x.b = b) → fQ b l = lQ l
  | [], _ => rfl
  | x :: r, h => by
    unfold fQ
    rw [if_pos (h x (by simp)), lQ_cons, fQ_all (fun y hy => h y (by simp [hy]))]
theorem fQ_none {b : Bool} : ∀ {l : List Od}, (∀ x, x ∈ l → x.b = !b) → fQ b l = 0
  | [], _ => rfl
  | x :: r, h => by
    unfold fQ
    rw [if_neg (by rw [h x (by simp)]; cases b <;> decide), fQ_none (fun y hy => h y (by simp [hy]))]
    rfl
theorem od_take (l : List Od) (i : Nat) (h : i < l.length) : l.take (i + 1) = l.take i ++ [od l i] := by
  rw [List.take_add_one, List.getElem?_eq_getElem h]
  unfold od
  rw [List.getD_eq_getElem?_getD, List.getElem?_eq_getElem h]
  rfl
theorem good_take {l : List Od} (h : Good l) (i : Nat) : Good (l.take i) := fun x hx => h x (List.mem_of_mem_take hx)
theorem tQ_list {b : Bool} {l : List Od} (hg : Good l) (hl : l.length ≤ 1000) : ∀ i, i ≤ l.length → tQ b (fun i => oa (od l i)) i = fQ b (l.take i)
  | 0, _ => by simp [tQ, fQ]
  | i + 1, hi => by
    have ih := tQ_list (b := b) hg hl i (by omega)
    have hq := hg.q (od_in (l := l) (j := i) (by omega))
    have hb := fQ_bd (b := b) (good_take hg i)
    have hlen : (l.take i).length ≤ 1000 := by rw [List.length_take]; omega
    rw [od_take l i (by omega), fQ_app, show fQ b [od l i] = (if (od l i).b = b then (od l i).q else 0) + 0 from rfl]
    by_cases h : (od l i).b = b
    · rw [tQ_yes (by rw [oa_B2]; exact h), oa_N4, ih, if_pos h]
      unfold wrap64
      omega
    · rw [tQ_no (by rw [oa_B2]; exact h), ih, if_neg h]
      omega
/-- the total of a book's orders -/
theorem total_book {w : World} {a : Option Addr} {n cap : Nat} {lb ls : List Od} (hO : ∀ i, IsOrd (oa (od (lb ++ ls) i))) (hi : BiX true lb ls) (hn : n = (lb ++ ls).length) (hR : RowsT w 30 5 a n (fun i => oa (od (lb ++ ls) i))) :
    Calls Try.prog 15 #[.slice a n cap] w fun e w' => e = .returned (.tuple #[.int .i64 (lQ lb), .int .i64 (lQ ls)]) ∧ w = w' := by
  have hg : Good (lb ++ ls) := fun x hx => by
    rcases List.mem_append.1 hx with hx | hx
    · exact hi.inv.gb x hx
    · exact hi.inv.gs x hx
  have hl := bi_len hi
  have c := total_rows (cap := cap) a n _ hO (rowsT_C hR) (by omega)
  rw [hn, tQ_list hg hl _ (Nat.le_refl _), tQ_list hg hl _ (Nat.le_refl _), List.take_length, fQ_app, fQ_app, fQ_all hi.inv.bb, fQ_none hi.inv.bs, fQ_none (b := false) hi.inv.bb, fQ_all (b := false) hi.inv.bs] at c
  rw [hn]
  simpa using c
end Go.Proofs.Ytmjfbilhalkegaa
