/- What the calls leave of a calendar's other contracts. Condition: the calendar is one. -/
import Derived.Test.YtobokknfpjjdeaaOrdP
namespace Go.Proofs.Ytobokknfpjjdeaa
set_option linter.unusedVariables false
set_option linter.unusedSimpArgs false
open Go.RowKit

/-- the specs are the same, and all of whichever is not numbered n -/
def Ap (n : Int) (K K' : Nat → Array Value) (k : Nat) : Prop := ∀ i, i < k → (K' i).extract 0 25 = (K i).extract 0 25 ∧ (N (K i) 0 ≠ n → K' i = K i)
theorem Ap.refl (n : Int) (K : Nat → Array Value) (k : Nat) : Ap n K K k := fun _ _ => ⟨rfl, fun _ => rfl⟩
theorem Ap.num {n : Int} {K K' : Nat → Array Value} {k i : Nat} (h : Ap n K K' k) (hK : IsCon (K i)) (hK' : IsCon (K' i)) (hi : i < k) : N (K' i) 0 = N (K i) 0 := by
  have e : N ((K' i).extract 0 25) 0 = N ((K i).extract 0 25) 0 := by rw [(h i hi).1]
  rw [N_extract (by have := hK'.size; omega) (by omega), N_extract (by have := hK.size; omega) (by omega)] at e
  exact e
theorem Ap.trans {n : Int} {K K' K'' : Nat → Array Value} {k : Nat} (h1 : Ap n K K' k) (h2 : Ap n K' K'' k) (hK : ∀ i, IsCon (K i)) (hK' : ∀ i, IsCon (K' i)) : Ap n K K'' k := fun i hi => by
  refine ⟨(h2 i hi).1.trans (h1 i hi).1, fun h => ?_⟩
  rw [(h2 i hi).2 (by rw [h1.num (hK i) (hK' i) hi]; exact h), (h1 i hi).2 h]
theorem ap_stt {K : Nat → Array Value} {k p : Nat} {s : Int} : Ap (N (K p) 0) K (stt K p s) k := fun i hi => by
  unfold stt
  split
  · rename_i e; subst e
    exact ⟨extract_set_out (by omega), fun h => absurd rfl h⟩
  · exact ⟨rfl, fun _ => rfl⟩
theorem ap_pr {K : Nat → Array Value} {k p : Nat} {x : Int} : Ap (N (K p) 0) K (pr K p x) k := fun i hi => by
  unfold pr
  split
  · rename_i e; subst e
    exact ⟨extract_set_out (by omega), fun h => absurd rfl h⟩
  · exact ⟨rfl, fun _ => rfl⟩
/-- what a call about number n leaves -/
def ApK (n : Int) (g base k : Nat) (day : Int) (K : Nat → Array Value) (w w' : World) : Prop := ∃ K', CalIs w' g base k day K' ∧ Ap n K K' k ∧ Below base w w' ∧ Kv g w w'
theorem ApK.same {n : Int} {w w' : World} {g base k : Nat} {day : Int} {K : Nat → Array Value} (h : CalIs w g base k day K) (hb : Below w.heap.size w w') : ApK n g base k day K w w' := by
  have hg := h.bg
  obtain ⟨v, hr, _⟩ := h.row
  have hl := (cells_of hr).2.2
  exact ⟨K, h.kept hb, Ap.refl _ _ _, hb.mono (by omega), kv_below hb⟩
theorem cpub_ap {w : World} {g base k : Nat} {day : Int} {K : Nat → Array Value} (n x : Int) (hx : F64 x) (h : CalIs w g base k day K) :
    Calls Try.prog 28 #[.pointer (some ⟨g, 0, none⟩), .int .u32 n, .int .i64 x] w fun e w' => (∃ r, e = .returned (.int .i64 r)) ∧ ApK n g base k day K w w' := by
  rcases there (K := K) k n with hn | ⟨p, hp, hn⟩
  · exact (cpub_out x h hn).mono fun e w' ⟨h1, h2⟩ => ⟨⟨_, h1⟩, ApK.same h h2⟩
  · by_cases hs : N (K p) 25 = 3
    · exact (cpub_gone x h hp hn hs).mono fun e w' ⟨h1, h2⟩ => ⟨⟨_, h1⟩, ApK.same h h2⟩
    · cases hb : ipB ((K p).extract 0 25) x
      · exact (cpub_bad x h hp hn hs hx hb).mono fun e w' ⟨h1, h2⟩ => ⟨⟨_, h1⟩, ApK.same h h2⟩
      · exact (cpub_set x h hp hn hs hx hb).mono fun e w' ⟨h1, h2, h3, h4⟩ => ⟨⟨_, h1⟩, _, h2, hn ▸ ap_pr, h3, h4⟩
theorem chalt_ap {w : World} {g base k : Nat} {day : Int} {K : Nat → Array Value} (n : Int) (on : Bool) (h : CalIs w g base k day K) :
    Calls Try.prog 29 #[.pointer (some ⟨g, 0, none⟩), .int .u32 n, .bool on] w fun e w' => (∃ r, e = .returned (.int .i64 r)) ∧ ApK n g base k day K w w' := by
  rcases there (K := K) k n with hn | ⟨p, hp, hn⟩
  · exact (chalt_out on h hn).mono fun e w' ⟨h1, h2⟩ => ⟨⟨_, h1⟩, ApK.same h h2⟩
  · by_cases hs : N (K p) 25 = 3
    · exact (chalt_gone on h hp hn hs).mono fun e w' ⟨h1, h2⟩ => ⟨⟨_, h1⟩, ApK.same h h2⟩
    · exact (chalt_set on h hp hn hs).mono fun e w' ⟨h1, h2, h3, h4⟩ => ⟨⟨_, h1⟩, _, h2, hn ▸ ap_stt, h3, h4⟩
theorem cdue_ap {w : World} {g base k : Nat} {day : Int} {K : Nat → Array Value} (n : Int) (h : CalIs w g base k day K) :
    Calls Try.prog 35 #[.pointer (some ⟨g, 0, none⟩), .int .u32 n] w fun e w' => (∃ r, e = .returned (.int .i64 r)) ∧ ApK n g base k day K w w' := by
  rcases there (K := K) k n with hn | ⟨p, hp, hn⟩
  · exact (cdue_out h hn).mono fun e w' ⟨h1, h2⟩ => ⟨⟨_, h1⟩, ApK.same h h2⟩
  · by_cases hs : N (K p) 25 = 3
    · exact (cdue_gone h hp hn hs).mono fun e w' ⟨h1, h2⟩ => ⟨⟨_, h1⟩, ApK.same h h2⟩
    · refine (cdue_any h hp hn hs).mono fun e w' ⟨h1, h2⟩ => ?_
      rcases h1 with ⟨h1, _⟩ | ⟨h1, _⟩ <;> exact ⟨⟨_, h1⟩, ApK.same h h2⟩
theorem cexp_ap {w : World} {g base k : Nat} {day : Int} {K : Nat → Array Value} (n : Int) (h : CalIs w g base k day K) :
    Calls Try.prog 27 #[.pointer (some ⟨g, 0, none⟩), .int .u32 n] w fun e w' => (∃ r, e = .returned (.int .i64 r)) ∧ ApK n g base k day K w w' := by
  rcases there (K := K) k n with hn | ⟨p, hp, hn⟩
  · exact (cexp_out h hn).mono fun e w' ⟨h1, h2⟩ => ⟨⟨_, h1⟩, ApK.same h h2⟩
  · by_cases hs : N (K p) 25 = 3
    · exact (cexp_gone h hp hn hs).mono fun e w' ⟨h1, h2⟩ => ⟨⟨_, h1⟩, ApK.same h h2⟩
    · refine (cexp_in h hp hn hs).mono fun e w' h1 => ?_
      rcases h1 with ⟨h1, _, h2⟩ | ⟨h1, _, _, h2, h3, h4⟩
      · exact ⟨⟨_, h1⟩, ApK.same h h2⟩
      · exact ⟨⟨_, h1⟩, _, h2, hn ▸ ap_stt, h3, h4⟩
end Go.Proofs.Ytobokknfpjjdeaa
