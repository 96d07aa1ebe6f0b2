/- A calendar that was made: where a contract is (a search by halves). Condition: the calendar is one. -/
import Derived.Test.YtobokknfpjjdeaaCalNo
namespace Go.Proofs.Ytobokknfpjjdeaa
set_option linter.unusedVariables false
set_option linter.unusedSimpArgs false
open Go.RowKit

structure IsCon (A : Array Value) : Prop where
  size : A.size = 27
  sp : IsSpec (A.extract 0 25)
  st : IsN A .u8 25
  pr : IsN A .i64 26
theorem IsCon.c0 {A : Array Value} (h : IsCon A) : A[0]? = some (.int .u32 (N A 0)) ∧ 0 ≤ N A 0 ∧ N A 0 ≤ 4294967295 := by
  obtain ⟨h0, h1⟩ := h.sp.c0.u32
  have hN : N (A.extract 0 25) 0 = N A 0 := by
    unfold N
    rw [Array.getElem?_extract, if_pos (by have := h.size; omega)]
  rw [hN] at h0 h1
  rw [Array.getElem?_extract, if_pos (by have := h.size; omega)] at h0
  exact ⟨h0, h1⟩
theorem IsCon.all {A : Array Value} (h : IsCon A) : A.all (·.oneCell') = true := by
  refine all_one fun i v hv => ?_
  have hi : i < 27 := by have := (Array.getElem?_eq_some_iff.1 hv).1; rw [h.size] at this; exact this
  by_cases e25 : i = 25
  · subst e25; exact h.st.one hv
  · by_cases e26 : i = 26
    · subst e26; exact h.pr.one hv
    · have hs := h.sp.all
      rw [Array.all_eq_true'] at hs
      refine hs v ?_
      have : (A.extract 0 25)[i]? = some v := by rw [Array.getElem?_extract, if_pos (by have := h.size; omega), Nat.zero_add]; exact hv
      exact Array.mem_of_getElem? this
def cmpI (a b : Int) : Int := if a < b then -1 else if b < a then 1 else 0
theorem cat1_any (A : Array Value) (n : Int) (w : World) (h : IsCon A) :
    Calls Try.prog 79 #[.agg A, .int .u32 n] w fun e w' => e = .returned (.int .i64 (cmpI (N A 0) n)) ∧ Below w.heap.size w w' := by
  obtain ⟨h0, _, _⟩ := h.c0
  have hb := below_new w (Obj.cells A 65)
  have HC := Lib.hid (show cmpI (N A 0) n = if N A 0 < n then -1 else if n < N A 0 then 1 else 0 from rfl)
  generalize cmpI (N A 0) n = r at *
  generalize N A 0 = x at *
  by_cases h1 : x < n
  · go_enter Try.func79, Try.ntmps79
    go_wp2
    go_ret
    exact ⟨by rw [HC.out, if_pos h1]; rfl, hb⟩
  · by_cases h2 : n < x
    · go_enter Try.func79, Try.ntmps79
      go_wp2
      go_ret
      exact ⟨by rw [HC.out, if_neg (by omega), if_pos h2]; rfl, hb⟩
    · go_enter Try.func79, Try.ntmps79
      go_wp2
      go_ret
      exact ⟨by rw [HC.out, if_neg (by omega), if_neg (by omega)]; rfl, hb⟩
/-- the place at which a number is, or would be -/
def At (L : Nat → Array Value) (k : Nat) (n : Int) (i : Nat) : Prop := i ≤ k ∧ (∀ t, t < i → N (L t) 0 < n) ∧ (∀ t, i ≤ t → t < k → n ≤ N (L t) 0)
set_option maxRecDepth 100000 in
set_option maxHeartbeats 2000000 in
theorem bsf_any (a : Option Addr) (k c : Nat) (L : Nat → Array Value) (n : Int) (w : World) (hR : RowsT w 65 27 a k L) (hL : ∀ i, IsCon (L i)) (hs : ∀ i j, i < j → j < k → N (L i) 0 < N (L j) 0) (hk : k ≤ 1000) :
    Calls Try.prog 78 #[.slice a k c, .int .u32 n, .func (.func 79) #[] #[]] w fun e w' => ∃ i : Nat, At L k n i ∧ e = .returned (.tuple #[.int .i64 i, .bool (decide (i < k ∧ N (L i) 0 = n))]) ∧ Below w.heap.size w w' := by
  have HR := Lib.hid hR
  have HL := Lib.hid hL
  have HS := Lib.hid hs
  clear hR hL hs
  go_enter Try.func78, Try.ntmps78
  go_wp2_with fail
  go_loopg [9, 10] k (fun gh i j wr => ∃ x y : Nat, x ≤ y ∧ y ≤ k ∧ gh = y - x ∧ i = .int .i64 x ∧ j = .int .i64 y ∧ (∀ t, t < x → N (L t) 0 < n) ∧ (∀ t, y ≤ t → t < k → n ≤ N (L t) 0) ∧ Below w.heap.size w wr)
  case atStart => exact ⟨0, k, by omega, by omega, by omega, rfl, rfl, fun t ht => by omega, fun t h1 h2 => by omega, Below.refl _ _⟩
  case round =>
    obtain ⟨x, y, hxy, hyk, rfl, rfl, rfl, hlo, hhi, hb⟩ := hrel
    have HLO := Lib.hid hlo
    have HHI := Lib.hid hhi
    clear hlo hhi
    by_cases hlt : x < y
    · obtain ⟨h, hh, hxh, hhy⟩ : ∃ h : Nat, ((x : Int) + y) / 2 = h ∧ x ≤ h ∧ h < y := ⟨(x + y) / 2, by omega, by omega, by omega⟩
      obtain ⟨gb, off, A, fr, rfl, hgA, hszA, hexA⟩ := HR.out h (by omega)
      have hgA2 := Ytobokknfpjjdeaa.kept hb hgA
      have HX := Lib.hid hexA
      have HZ := Lib.hid hszA
      have hc := HL.out h
      have hck := Lib.hid (fun w1 => cat1_any (L h) n w1 hc)
      have hhk : (h : Int) < (k : Int) := by omega
      clear hexA hszA hgA hc
      have HC := Lib.hid (show cmpI (N (L h) 0) n = if N (L h) 0 < n then -1 else if n < N (L h) 0 then 1 else 0 from rfl)
      by_cases hn : N (L h) 0 < n
      · have hcm : cmpI (N (L h) 0) n = -1 := by rw [HC.out, if_pos hn]
        rw [hcm] at hck
        have HN := Lib.hid hn
        clear hcm hn HC
        go_wp2_with (first | ((with_reducible refine at_load 65 ?_); refine wpList_load_part rfl 65 _ rfl (gb) (off + h * 27) rfl _ (A) _ _ 27 (hgA2) Try.underlying65 rfl (by kernel_rfl) (by have := HZ.out; omega) (L h) (HX.out) ?_) | (go_at_call 79; (with_reducible refine (hck.out _).mono ?_); rintro e w1 ⟨rfl, hb1⟩))
        go_roundg (y - (h + 1))
        case measure => omega
        case rel => exact ⟨h + 1, y, by omega, hyk, rfl, by go_num, rfl, fun t ht => by
          by_cases e : t = h
          · subst e; exact HN.out
          · exact Int.lt_trans (HS.out t h (by omega) (by omega)) HN.out, HHI.out, below_then hb hb1⟩
      · have hcm : ¬ cmpI (N (L h) 0) n < 0 := by rw [HC.out, if_neg hn]; split <;> omega
        have HN := Lib.hid hn
        generalize cmpI (N (L h) 0) n = cv at *
        clear hn HC
        go_wp2_with (first | ((with_reducible refine at_load 65 ?_); refine wpList_load_part rfl 65 _ rfl (gb) (off + h * 27) rfl _ (A) _ _ 27 (hgA2) Try.underlying65 rfl (by kernel_rfl) (by have := HZ.out; omega) (L h) (HX.out) ?_) | (go_at_call 79; (with_reducible refine (hck.out _).mono ?_); rintro e w1 ⟨rfl, hb1⟩))
        go_roundg (h - x)
        case measure => omega
        case rel => exact ⟨x, h, by omega, by omega, rfl, rfl, rfl, HLO.out, fun t h1 h2 => by
          by_cases e : t = h
          · subst e; have := HN.out; omega
          · have := HS.out h t (by omega) h2
            have := HN.out
            omega, below_then hb hb1⟩
    · obtain rfl : x = y := by omega
      have hat : At L k n x := ⟨hyk, HLO.out, HHI.out⟩
      have HAT := Lib.hid hat
      clear hat
      by_cases hxk : x < k
      · obtain ⟨gb, off, A, fr, rfl, hgA, hszA, hexA⟩ := HR.out x hxk
        have hgA2 := Ytobokknfpjjdeaa.kept hb hgA
        have HX := Lib.hid hexA
        have HZ := Lib.hid hszA
        have hc := HL.out x
        have hck := Lib.hid (fun w1 => cat1_any (L x) n w1 hc)
        have hhk : (x : Int) < (k : Int) := by omega
        have HXK := Lib.hid hxk
        clear hexA hszA hgA hc
        have HC := Lib.hid (show cmpI (N (L x) 0) n = if N (L x) 0 < n then -1 else if n < N (L x) 0 then 1 else 0 from rfl)
        by_cases hn : N (L x) 0 = n
        · have hcm : cmpI (N (L x) 0) n = 0 := by rw [HC.out, if_neg (by omega), if_neg (by omega)]
          rw [hcm] at hck
          have HN := Lib.hid hn
          clear hcm hn HC
          go_wp2_with (first | ((with_reducible refine at_load 65 ?_); refine wpList_load_part rfl 65 _ rfl (gb) (off + x * 27) rfl _ (A) _ _ 27 (hgA2) Try.underlying65 rfl (by kernel_rfl) (by have := HZ.out; omega) (L x) (HX.out) ?_) | (go_at_call 79; (with_reducible refine (hck.out _).mono ?_); rintro e w1 ⟨rfl, hb1⟩))
          go_ret2
          exact ⟨x, HAT.out, by rw [show decide (x < k ∧ N (L x) 0 = n) = true from decide_eq_true ⟨HXK.out, HN.out⟩]; rfl, below_then hb hb1⟩
        · have hcm : (cmpI (N (L x) 0) n == 0) = false := by
            rw [HC.out]
            split
            · rfl
            · rw [if_pos (by omega)]; rfl
          have HN := Lib.hid hn
          generalize cmpI (N (L x) 0) n = cv at *
          clear hn HC
          go_wp2_with (first | ((with_reducible refine at_load 65 ?_); refine wpList_load_part rfl 65 _ rfl (gb) (off + x * 27) rfl _ (A) _ _ 27 (hgA2) Try.underlying65 rfl (by kernel_rfl) (by have := HZ.out; omega) (L x) (HX.out) ?_) | (go_at_call 79; (with_reducible refine (hck.out _).mono ?_); rintro e w1 ⟨rfl, hb1⟩))
          go_ret2
          exact ⟨x, HAT.out, by rw [show decide (x < k ∧ N (L x) 0 = n) = false from decide_eq_false (fun h => HN.out h.2)]; rfl, below_then hb hb1⟩
      · have HXK := Lib.hid hxk
        have hxk2 : decide (x < k) = false := decide_eq_false hxk
        go_wp2_with fail
        go_ret2
        exact ⟨x, HAT.out, by rw [show decide (x < k ∧ N (L x) 0 = n) = false from decide_eq_false (fun h => HXK.out h.1)]; rfl, hb⟩
end Go.Proofs.Ytobokknfpjjdeaa
