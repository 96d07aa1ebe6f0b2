/- List where it refuses; Get, alive, Publish, Halt and Next of a calendar. Condition: the calendar is one. -/
import Derived.Test.YtobokknfpjjdeaaCalLA
namespace Go.Proofs.Ytobokknfpjjdeaa
set_option linter.unusedVariables false
set_option linter.unusedSimpArgs false
open Go.RowKit

theorem clist_bad {w : World} {g base k : Nat} {day : Int} {L : Nat → Array Value} {A : Array Value} (h : CalIs w g base k day L) (hA : IsSpec A) (hm : mayB A = false) :
    Calls Try.prog 25 #[.pointer (some ⟨g, 0, none⟩), .agg A] w fun e w' => e = .returned (.int .i64 2) ∧ Below w.heap.size w w' := by
  have hb0 := below_new w (Obj.cells A 61)
  have h1 := h.kept hb0
  have hgp := heap_alloc_new w (Obj.cells A 61)
  have cr := Lib.hid (cready_yes h1)
  have cm := Lib.hid (fun w1 => may_any A w1 hA)
  rw [hm] at cm
  obtain ⟨v, hg, hrow⟩ := h.row
  obtain ⟨ra, rc, rfl, _⟩ := own_rows (c := 27) (fun i => (h.con i).size) hrow
  have H1 := Lib.hid h1
  have h0 := hA.c0.u32.1
  have h23 := hA.c23.u32.1
  have HSZ := Lib.hid hA.size
  have HEX := Lib.hid (extract_all hA.size)
  clear h h1 hA hm hrow
  go_enter Try.func25, Try.ntmps25
  go_wp2_with (first | (go_at_call 57; (with_reducible refine (cr.out).mono ?_); rintro e w1 ⟨rfl, rfl⟩) | ((with_reducible refine at_load 61 ?_); refine wpList_load_part rfl 61 _ rfl (w.heap.size) (0) rfl _ (A) _ _ 25 (hgp) Try.underlying61 rfl (by kernel_rfl) (by rw [HSZ.out]; omega) (A) (HEX.out) ?_) | (go_at_call 58; (with_reducible refine (cm.out _).mono ?_); rintro e w1 ⟨rfl, hb1⟩))
  go_ret
  exact ⟨rfl, below_then hb0 hb1⟩
theorem clist_twice {w : World} {g base k i : Nat} {day : Int} {L : Nat → Array Value} {A : Array Value} (h : CalIs w g base k day L) (hA : IsSpec A) (hm : mayB A = true) (hi : i < k) (hn : N (L i) 0 = N A 0) :
    Calls Try.prog 25 #[.pointer (some ⟨g, 0, none⟩), .agg A] w fun e w' => e = .returned (.int .i64 8) ∧ Below w.heap.size w w' := by
  have hb0 := below_new w (Obj.cells A 61)
  have h1 := h.kept hb0
  have hgp := heap_alloc_new w (Obj.cells A 61)
  have cr := Lib.hid (cready_yes h1)
  have cm := Lib.hid (fun w1 => may_any A w1 hA)
  rw [hm] at cm
  obtain ⟨v, hg, hrow⟩ := h.row
  obtain ⟨ra, rc, rfl, _⟩ := own_rows (c := 27) (fun i => (h.con i).size) hrow
  have H1 := Lib.hid h1
  have h0 := hA.c0.u32.1
  have h23 := hA.c23.u32.1
  have HSZ := Lib.hid hA.size
  have HEX := Lib.hid (extract_all hA.size)
  have HH := Lib.hid (fun w1 (hh : CalIs w1 g base k day L) => cat_in (n := N A 0) hh hi hn)
  clear h h1 hA hm hrow hn
  go_enter Try.func25, Try.ntmps25
  go_wp2_with (first | (go_at_call 57; (with_reducible refine (cr.out).mono ?_); rintro e w1 ⟨rfl, rfl⟩) | ((with_reducible refine at_load 61 ?_); refine wpList_load_part rfl 61 _ rfl (w.heap.size) (0) rfl _ (A) _ _ 25 (hgp) Try.underlying61 rfl (by kernel_rfl) (by rw [HSZ.out]; omega) (A) (HEX.out) ?_) | (go_at_call 58; (with_reducible refine (cm.out _).mono ?_); rintro e w1 ⟨rfl, hb1⟩; have cp1 := cellF (Ytobokknfpjjdeaa.kept hb1 hgp)) | (go_at_call 59; (with_reducible refine (HH.out _ (H1.out.kept hb1)).mono ?_); rintro e w2 ⟨rfl, hb2⟩))
  go_ret
  exact ⟨rfl, below_then (below_then hb0 hb1) hb2⟩
theorem clist_late {w : World} {g base k pi : Nat} {day : Int} {L : Nat → Array Value} {A : Array Value} (h : CalIs w g base k day L) (hA : IsSpec A) (hm : mayB A = true) (hat : At L k (N A 0) pi) (hfr : ∀ i, i < k → N (L i) 0 ≠ N A 0) (hd : N A 23 < day) :
    Calls Try.prog 25 #[.pointer (some ⟨g, 0, none⟩), .agg A] w fun e w' => e = .returned (.int .i64 51) ∧ Below w.heap.size w w' := by
  have hb0 := below_new w (Obj.cells A 61)
  have h1 := h.kept hb0
  have hgp := heap_alloc_new w (Obj.cells A 61)
  have cr := Lib.hid (cready_yes h1)
  have cm := Lib.hid (fun w1 => may_any A w1 hA)
  rw [hm] at cm
  obtain ⟨v, hg, hrow⟩ := h.row
  obtain ⟨ra, rc, rfl, _⟩ := own_rows (c := 27) (fun i => (h.con i).size) hrow
  have H1 := Lib.hid h1
  have h0 := hA.c0.u32.1
  have h23 := hA.c23.u32.1
  have HSZ := Lib.hid hA.size
  have HEX := Lib.hid (extract_all hA.size)
  have HH := Lib.hid (fun w1 (hh : CalIs w1 g base k day L) => (cat_out (n := N A 0) hh hfr).mono (R' := fun e w' => e = .returned (.tuple #[.int .i64 pi, .bool false]) ∧ Below w1.heap.size w1 w') (fun e w' ⟨j, hj, he, hb⟩ => by
    have : j = pi := hj.uniq hat
    subst this
    exact ⟨he, hb⟩))
  clear h h1 hA hm hrow hat hfr
  go_enter Try.func25, Try.ntmps25
  go_wp2_with (first | (go_at_call 57; (with_reducible refine (cr.out).mono ?_); rintro e w1 ⟨rfl, rfl⟩) | ((with_reducible refine at_load 61 ?_); refine wpList_load_part rfl 61 _ rfl (w.heap.size) (0) rfl _ (A) _ _ 25 (hgp) Try.underlying61 rfl (by kernel_rfl) (by rw [HSZ.out]; omega) (A) (HEX.out) ?_) | (go_at_call 58; (with_reducible refine (cm.out _).mono ?_); rintro e w1 ⟨rfl, hb1⟩; have cp1 := cellF (Ytobokknfpjjdeaa.kept hb1 hgp)) | (go_at_call 59; (with_reducible refine (HH.out _ (H1.out.kept hb1)).mono ?_); rintro e w2 ⟨rfl, hb2⟩; have hb12 := below_then hb1 hb2; have cp2 := cellF (Ytobokknfpjjdeaa.kept hb12 hgp); have cg2 := cellF (Ytobokknfpjjdeaa.kept hb12 (heap_up hg))))
  go_quiet (fail)
  go_wp2
  go_ret
  exact ⟨rfl, below_drawn (below_then hb0 hb12)⟩
theorem clist_full {w : World} {g base k pi : Nat} {day : Int} {L : Nat → Array Value} {A : Array Value} (h : CalIs w g base k day L) (hA : IsSpec A) (hm : mayB A = true) (hat : At L k (N A 0) pi) (hfr : ∀ i, i < k → N (L i) 0 ≠ N A 0) (hd : day ≤ N A 23) (hk : 16 ≤ k) :
    Calls Try.prog 25 #[.pointer (some ⟨g, 0, none⟩), .agg A] w fun e w' => e = .returned (.int .i64 9) ∧ Below w.heap.size w w' := by
  have hnd : ¬ N A 23 < day := by omega
  have hkz : (16 : Int) ≤ k := by omega
  have hb0 := below_new w (Obj.cells A 61)
  have h1 := h.kept hb0
  have hgp := heap_alloc_new w (Obj.cells A 61)
  have cr := Lib.hid (cready_yes h1)
  have cm := Lib.hid (fun w1 => may_any A w1 hA)
  rw [hm] at cm
  obtain ⟨v, hg, hrow⟩ := h.row
  obtain ⟨ra, rc, rfl, _⟩ := own_rows (c := 27) (fun i => (h.con i).size) hrow
  have H1 := Lib.hid h1
  have h0 := hA.c0.u32.1
  have h23 := hA.c23.u32.1
  have HSZ := Lib.hid hA.size
  have HEX := Lib.hid (extract_all hA.size)
  have HH := Lib.hid (fun w1 (hh : CalIs w1 g base k day L) => (cat_out (n := N A 0) hh hfr).mono (R' := fun e w' => e = .returned (.tuple #[.int .i64 pi, .bool false]) ∧ Below w1.heap.size w1 w') (fun e w' ⟨j, hj, he, hb⟩ => by
    have : j = pi := hj.uniq hat
    subst this
    exact ⟨he, hb⟩))
  clear h h1 hA hm hrow hat hfr
  go_enter Try.func25, Try.ntmps25
  go_wp2_with (first | (go_at_call 57; (with_reducible refine (cr.out).mono ?_); rintro e w1 ⟨rfl, rfl⟩) | ((with_reducible refine at_load 61 ?_); refine wpList_load_part rfl 61 _ rfl (w.heap.size) (0) rfl _ (A) _ _ 25 (hgp) Try.underlying61 rfl (by kernel_rfl) (by rw [HSZ.out]; omega) (A) (HEX.out) ?_) | (go_at_call 58; (with_reducible refine (cm.out _).mono ?_); rintro e w1 ⟨rfl, hb1⟩; have cp1 := cellF (Ytobokknfpjjdeaa.kept hb1 hgp)) | (go_at_call 59; (with_reducible refine (HH.out _ (H1.out.kept hb1)).mono ?_); rintro e w2 ⟨rfl, hb2⟩; have hb12 := below_then hb1 hb2; have cp2 := cellF (Ytobokknfpjjdeaa.kept hb12 hgp); have cg2 := cellF (Ytobokknfpjjdeaa.kept hb12 (heap_up hg))))
  go_quiet (fail)
  go_wp2
  go_ret
  exact ⟨rfl, below_drawn (below_then hb0 hb12)⟩
theorem at_ex {L : Nat → Array Value} {k : Nat} (hs : ∀ i j, i < j → j < k → N (L i) 0 < N (L j) 0) (n : Int) : ∃ i, At L k n i := by
  induction k with
  | zero => exact ⟨0, Nat.le_refl _, fun t ht => by omega, fun t h1 h2 => by omega⟩
  | succ k ih =>
    obtain ⟨i, h1, h2, h3⟩ := ih (fun i j hij hj => hs i j hij (by omega))
    by_cases hi : i < k
    · refine ⟨i, by omega, h2, fun t ht1 ht2 => ?_⟩
      by_cases e : t = k
      · subst e; have := h3 i (Nat.le_refl _) hi; have := hs i t hi (by omega); omega
      · exact h3 t ht1 (by omega)
    · have : i = k := by omega
      subst this
      by_cases hn : N (L i) 0 < n
      · refine ⟨i + 1, Nat.le_refl _, fun t ht => ?_, fun t ht1 ht2 => by omega⟩
        by_cases e : t = i
        · subst e; exact hn
        · exact h2 t (by omega)
      · exact ⟨i, by omega, h2, fun t ht1 ht2 => by have : t = i := by omega
                                                    subst this; omega⟩
/-- List of whatever contract -/
theorem clist_any {w : World} {g base k : Nat} {day : Int} {L : Nat → Array Value} {A : Array Value} (h : CalIs w g base k day L) (hA : IsSpec A) :
    Calls Try.prog 25 #[.pointer (some ⟨g, 0, none⟩), .agg A] w fun e w' => ∃ r : Int, e = .returned (.int .i64 r) ∧ ((r ≠ 0 ∧ Below w.heap.size w w') ∨
      (r = 0 ∧ mayB A = true ∧ day ≤ N A 23 ∧ k < 16 ∧ (∀ i, i < k → N (L i) 0 ≠ N A 0) ∧ ∃ pi, At L k (N A 0) pi ∧ CalIs w' g base (k + 1) day (ins L pi (conA A (N A 24))) ∧ Below base w w')) := by
  by_cases hm : mayB A = true
  · by_cases hfr : ∀ i, i < k → N (L i) 0 ≠ N A 0
    · obtain ⟨pi, hat⟩ := at_ex h.srt (N A 0)
      by_cases hd : N A 23 < day
      · exact (clist_late h hA hm hat hfr hd).mono fun e w' ⟨h1, h2⟩ => ⟨51, h1, .inl ⟨by decide, h2⟩⟩
      · by_cases hk : k < 16
        · exact (clist_ok h hA hm hat hfr (by omega) hk).mono fun e w' ⟨h1, h2, h3, _⟩ => ⟨0, h1, .inr ⟨rfl, hm, by omega, hk, hfr, pi, hat, h2, h3⟩⟩
        · exact (clist_full h hA hm hat hfr (by omega) (by omega)).mono fun e w' ⟨h1, h2⟩ => ⟨9, h1, .inl ⟨by decide, h2⟩⟩
    · obtain ⟨i, hi⟩ := Classical.not_forall.1 hfr
      obtain ⟨hi1, hi2⟩ : ∃ _ : i < k, N (L i) 0 = N A 0 := by
        by_cases hik : i < k
        · exact ⟨hik, by simpa [hik] using hi⟩
        · exact absurd (fun h => absurd h hik) hi
      exact (clist_twice h hA hm hi1 hi2).mono fun e w' ⟨h1, h2⟩ => ⟨8, h1, .inl ⟨by decide, h2⟩⟩
  · exact (clist_bad h hA (by simpa using hm)).mono fun e w' ⟨h1, h2⟩ => ⟨2, h1, .inl ⟨by decide, h2⟩⟩
end Go.Proofs.Ytobokknfpjjdeaa
