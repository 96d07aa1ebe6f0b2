/- What the calls leave of a calendar whose contracts expire one by one. Condition: the calendar is one. -/
import Derived.Test.YtobokknfpjjdeaaCalE
namespace Go.Proofs.Ytobokknfpjjdeaa
set_option linter.unusedVariables false
set_option linter.unusedSimpArgs false
open Go.RowKit

/-- numbers and last days are the same, what is expired is as it was, what is not is not -/
def SameF (K K' : Nat → Array Value) (k : Nat) : Prop := ∀ i, i < k → N (K' i) 0 = N (K i) 0 ∧ N (K' i) 23 = N (K i) 23 ∧ (N (K i) 25 = 3 → K' i = K i) ∧ (N (K i) 25 ≠ 3 → N (K' i) 25 ≠ 3)
theorem SameF.refl (K : Nat → Array Value) (k : Nat) : SameF K K k := fun _ _ => ⟨rfl, rfl, fun _ => rfl, fun h => h⟩
theorem SameF.trans {K K' K'' : Nat → Array Value} {k : Nat} (h1 : SameF K K' k) (h2 : SameF K' K'' k) : SameF K K'' k := fun i hi => by
  obtain ⟨a1, a2, a3, a4⟩ := h1 i hi
  obtain ⟨b1, b2, b3, b4⟩ := h2 i hi
  exact ⟨by rw [b1, a1], by rw [b2, a2], fun h => by have e := a3 h; rw [b3 (by rw [e]; exact h), e], fun h => b4 (a4 h)⟩
theorem same_stt {K : Nat → Array Value} {k p : Nat} {s : Int} (hK : ∀ i, IsCon (K i)) (hp : N (K p) 25 ≠ 3) (hs : s ≠ 3) : SameF K (stt K p s) k := fun i hi => by
  refine ⟨N_stt i 0 (by decide), N_stt i 23 (by decide), fun h => ?_, fun h => ?_⟩
  · unfold stt; rw [if_neg (fun e => by subst e; exact hp h)]
  · unfold stt
    split
    · unfold N; rw [Array.getElem?_setIfInBounds_self, if_pos (by rw [(hK i).size]; omega)]; exact hs
    · exact h
theorem same_pr {K : Nat → Array Value} {k p : Nat} {x : Int} (hp : N (K p) 25 ≠ 3) : SameF K (pr K p x) k := fun i hi => by
  refine ⟨N_pr i 0 (by decide), N_pr i 23 (by decide), fun h => ?_, fun h => by rw [N_pr i 25 (by decide)]; exact h⟩
  unfold pr; rw [if_neg (fun e => by subst e; exact hp h)]
theorem ahead_n {A A' B B' : Array Value} (h1 : N A 23 = N A' 23) (h2 : N A 0 = N A' 0) (h3 : N B 23 = N B' 23) (h4 : N B 0 = N B' 0) : aheadB A B = aheadB A' B' := by unfold aheadB; rw [h1, h2, h3, h4]
/-- those that expired are there as they were then; none that is not expired is ahead of one of them -/
structure GI (K : Nat → Array Value) (k : Nat) (G : Nat → Array Value) (m : Nat) : Prop where
  a : ∀ t, t < m → ∃ p, p < k ∧ K p = G t ∧ N (K p) 25 = 3
  b : ∀ t, t < m → ∀ p, p < k → N (K p) 25 ≠ 3 → aheadB (K p) (G t) = false
theorem GI.same {K K' G : Nat → Array Value} {k m : Nat} (h : GI K k G m) (hs : SameF K K' k) : GI K' k G m := by
  refine ⟨fun t ht => ?_, fun t ht p hp hn => ?_⟩
  · obtain ⟨p, h1, h2, h3⟩ := h.a t ht
    have e := (hs p h1).2.2.1 h3
    exact ⟨p, h1, by rw [e, h2], by rw [e, h3]⟩
  · obtain ⟨a1, a2, a3, _⟩ := hs p hp
    rw [ahead_n a2 a1 rfl rfl]
    refine h.b t ht p hp (fun e => ?_)
    rw [a3 e] at hn
    exact hn e
theorem N_stt25 {K : Nat → Array Value} {p : Nat} {s : Int} (hK : ∀ i, IsCon (K i)) : N (stt K p s p) 25 = s := by
  unfold stt; rw [if_pos rfl]; unfold N; rw [Array.getElem?_setIfInBounds_self, if_pos (by rw [(hK p).size]; omega)]
theorem GI.exp {K G : Nat → Array Value} {k m p : Nat} (h : GI K k G m) (hK : ∀ i, IsCon (K i)) (hp : p < k) (hn : N (K p) 25 ≠ 3) (hf : FirstDue K k p) : GI (stt K p 3) k (snoc G m (stt K p 3 p)) (m + 1) := by
  have ne : ∀ q, q ≠ p → stt K p 3 q = K q := fun q hq => by unfold stt; rw [if_neg hq]
  refine ⟨fun t ht => ?_, fun t ht q hq hn2 => ?_⟩
  · by_cases e : t = m
    · subst e; rw [snoc_at]; exact ⟨p, hp, rfl, N_stt25 hK⟩
    · rw [snoc_lt G m _ t (by omega)]
      obtain ⟨q, h1, h2, h3⟩ := h.a t (by omega)
      have hqp : q ≠ p := fun e => hn (by rw [← e]; exact h3)
      exact ⟨q, h1, by rw [ne q hqp, h2], by rw [ne q hqp, h3]⟩
  · have hqp : q ≠ p := fun e => hn2 (by rw [e]; exact N_stt25 hK)
    rw [ne q hqp] at hn2 ⊢
    by_cases e : t = m
    · subst e; rw [snoc_at, ahead_n rfl rfl (N_stt p 23 (by decide)) (N_stt p 0 (by decide))]; exact hf q hq hn2
    · rw [snoc_lt G m _ t (by omega)]; exact h.b t (by omega) q hq hn2
/-- the one that expires now stands behind the last one -/
theorem GI.last {K G : Nat → Array Value} {k m p : Nat} (h : GI K k G m) (hs : ∀ i j, i < j → j < k → N (K i) 0 < N (K j) 0) (hp : p < k) (hn : N (K p) 25 ≠ 3) (hm : 0 < m) : ¬ N (K p) 23 < N (G (m - 1)) 23 ∧ (N (G (m - 1)) 23 = N (K p) 23 → ¬ N (K p) 0 ≤ N (G (m - 1)) 0) := by
  have hb := h.b (m - 1) (by omega) p hp hn
  unfold aheadB at hb
  simp only [Bool.or_eq_false_iff, decide_eq_false_iff_not, Bool.and_eq_false_iff] at hb
  obtain ⟨q, h1, h2, h3⟩ := h.a (m - 1) (by omega)
  have hqp : q ≠ p := fun e => hn (by rw [← e]; exact h3)
  refine ⟨hb.1, fun e hle => ?_⟩
  rcases hb.2 with hb2 | hb2
  · exact hb2 e.symm
  · rw [← h2] at hle hb2
    rcases Nat.lt_trichotomy p q with hpq | hpq | hpq
    · have := hs p q hpq h1; omega
    · exact hqp hpq.symm
    · have := hs q p hpq hp; omega

/-- what a call leaves -/
def Kept (g base k : Nat) (day : Int) (K : Nat → Array Value) (w w' : World) : Prop := ∃ K', CalIs w' g base k day K' ∧ SameF K K' k ∧ Below base w w' ∧ Kv g w w'
theorem Kept.same {w w' : World} {g base k : Nat} {day : Int} {K : Nat → Array Value} (h : CalIs w g base k day K) (hb : Below w.heap.size w w') : Kept g base k day K w w' := by
  have hg := h.bg
  obtain ⟨v, hr, _⟩ := h.row
  have hl := (cells_of hr).2.2
  exact ⟨K, h.kept hb, SameF.refl _ _, hb.mono (by omega), kv_below hb⟩
theorem Kept.trans {w w1 w2 : World} {g base k : Nat} {day : Int} {K : Nat → Array Value} (h1 : Kept g base k day K w w1) (h2 : ∀ K', CalIs w1 g base k day K' → Kept g base k day K' w1 w2) : Kept g base k day K w w2 := by
  obtain ⟨K1, a1, a2, a3, a4⟩ := h1
  obtain ⟨K2, b1, b2, b3, b4⟩ := h2 K1 a1
  exact ⟨K2, b1, a2.trans b2, a3.trans b3, a4.trans a3.size b4⟩
theorem there {K : Nat → Array Value} (k : Nat) (n : Int) : (∀ i, i < k → N (K i) 0 ≠ n) ∨ ∃ p, p < k ∧ N (K p) 0 = n := by
  by_cases h : ∃ p, p < k ∧ N (K p) 0 = n
  · exact .inr h
  · exact .inl fun i hi e => h ⟨i, hi, e⟩
theorem cpub_q {w : World} {g base k : Nat} {day : Int} {K : Nat → Array Value} (n x : Int) (hx : F64 x) (h : CalIs w g base k day K) :
    Calls Try.prog 28 #[.pointer (some ⟨g, 0, none⟩), .int .u32 n, .int .i64 x] w fun e w' => (∃ r, e = .returned (.int .i64 r)) ∧ Kept g base k day K w w' := by
  rcases there (K := K) k n with hn | ⟨p, hp, hn⟩
  · exact (cpub_out x h hn).mono fun e w' ⟨h1, h2⟩ => ⟨⟨_, h1⟩, Kept.same h h2⟩
  · by_cases hs : N (K p) 25 = 3
    · exact (cpub_gone x h hp hn hs).mono fun e w' ⟨h1, h2⟩ => ⟨⟨_, h1⟩, Kept.same h h2⟩
    · cases hb : ipB ((K p).extract 0 25) x
      · exact (cpub_bad x h hp hn hs hx hb).mono fun e w' ⟨h1, h2⟩ => ⟨⟨_, h1⟩, Kept.same h h2⟩
      · exact (cpub_set x h hp hn hs hx hb).mono fun e w' ⟨h1, h2, h3, h4⟩ => ⟨⟨_, h1⟩, _, h2, same_pr hs, h3, h4⟩
theorem chalt_q {w : World} {g base k : Nat} {day : Int} {K : Nat → Array Value} (n : Int) (on : Bool) (h : CalIs w g base k day K) :
    Calls Try.prog 29 #[.pointer (some ⟨g, 0, none⟩), .int .u32 n, .bool on] w fun e w' => (∃ r, e = .returned (.int .i64 r)) ∧ Kept g base k day K w w' := by
  rcases there (K := K) k n with hn | ⟨p, hp, hn⟩
  · exact (chalt_out on h hn).mono fun e w' ⟨h1, h2⟩ => ⟨⟨_, h1⟩, Kept.same h h2⟩
  · by_cases hs : N (K p) 25 = 3
    · exact (chalt_gone on h hp hn hs).mono fun e w' ⟨h1, h2⟩ => ⟨⟨_, h1⟩, Kept.same h h2⟩
    · exact (chalt_set on h hp hn hs).mono fun e w' ⟨h1, h2, h3, h4⟩ => ⟨⟨_, h1⟩, _, h2, same_stt h.con hs (by cases on <;> decide), h3, h4⟩
end Go.Proofs.Ytobokknfpjjdeaa
