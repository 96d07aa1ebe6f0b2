/- What is filled and what is left; an order that is to trade wholly, and one that is not to trade (plain). Condition: the lists are a book's. -/
import Derived.Test.YtmjfbilhalkegaaPair07M
namespace Go.Proofs.Ytmjfbilhalkegaa
set_option linter.unusedVariables false
set_option linter.unusedSimpArgs false
open Go.RowKit Go.Deep

/-- all that trades have -/
def trQ (l : List Tr) : Int := (l.map Tr.q).sum
theorem trQ_cons (t : Tr) (l : List Tr) : trQ (t :: l) = t.q + trQ l := by simp [trQ]
theorem meet_sum {o : Od} : ∀ {l : List Od} {left : Int}, 0 ≤ left → Good l → (meet o left l).filled + (meet o left l).left = left ∧ trQ (meet o left l).tr = (meet o left l).filled ∧ (∀ t, t ∈ (meet o left l).tr → 1 ≤ t.q) ∧ 0 ≤ (meet o left l).left
  | [], left, h0, _ => by
    show (0:Int) + left = left ∧ trQ [] = 0 ∧ (∀ t, t ∈ ([] : List Tr) → 1 ≤ t.q) ∧ 0 ≤ left
    exact ⟨by omega, rfl, fun t h => (by cases h), h0⟩
  | x :: r, left, h0, h => by
    have hq := h.q (x := x) (by simp)
    by_cases hl : left ≤ 0
    · rw [meet_done hl]
      exact ⟨by show (0:Int) + left = left; omega, rfl, fun t h => (by cases h), h0⟩
    · cases hc : crs o x.p with
      | false =>
        rw [meet_stop hc]
        exact ⟨by show (0:Int) + left = left; omega, rfl, fun t h => (by cases h), h0⟩
      | true =>
        unfold meet
        rw [if_neg hl, if_neg (by rw [hc]; decide)]
        by_cases ha : x.a = o.a
        · rw [if_pos ha]
          exact meet_sum h0 h.tail
        · rw [if_neg ha]
          by_cases hq2 : left < x.q
          · rw [if_pos hq2]
            refine ⟨by show left + 0 = left; omega, by rw [show (Met.mk ({ x with q := x.q - left } :: r) 0 left [⟨x.p, left, x.n, x.a⟩] []).tr = [⟨x.p, left, x.n, x.a⟩] from rfl, trQ_cons]; show left + 0 = left; omega, fun t ht => ?_, by show (0:Int) ≤ 0; omega⟩
            have : t = ⟨x.p, left, x.n, x.a⟩ := by simpa using ht
            rw [this]; show 1 ≤ left; omega
          · rw [if_neg hq2]
            obtain ⟨a1, a2, a3, a4⟩ := meet_sum (o := o) (l := r) (left := left - x.q) (by omega) h.tail
            refine ⟨?_, ?_, fun t ht => ?_, a4⟩
            · show x.q + (meet o (left - x.q) r).filled + (meet o (left - x.q) r).left = left
              omega
            · show trQ (⟨x.p, x.q, x.n, x.a⟩ :: (meet o (left - x.q) r).tr) = x.q + (meet o (left - x.q) r).filled
              rw [trQ_cons, a2]
            · rcases List.mem_cons.1 ht with rfl | ht
              · exact hq.1
              · exact a3 t ht
theorem trQ_pos : ∀ {l : List Tr}, (∀ t, t ∈ l → 1 ≤ t.q) → 0 ≤ trQ l
  | [], _ => by simp [trQ]
  | t :: r, h => by
    have := trQ_pos (l := r) (fun t ht => h t (by simp [ht]))
    have := h t (by simp)
    rw [trQ_cons]; omega
theorem trQ_nil {l : List Tr} (h : ∀ t, t ∈ l → 1 ≤ t.q) (h0 : trQ l = 0) : l = [] := by
  cases l with
  | nil => rfl
  | cons t r =>
    have h1 := trQ_pos (l := r) (fun t ht => h t (by simp [ht]))
    have h2 := h t (by simp)
    rw [trQ_cons] at h0
    omega
theorem pcode_ok {o : Od} {k : Int} {lb ls l1 l2 : List Od} (h : pcode o k lb ls l1 l2 = 0) : okO (oa o) = true ∧ (1 ≤ k ∧ k ≤ 4) ∧ gt o.n lb = none ∧ gt o.n ls = none ∧ ¬ (k = 3 ∧ rch (!o.b) o.p o.a l2 < o.q) ∧ ¬ (k = 4 ∧ 0 < rch (!o.b) o.p o.a l2) ∧ ¬ (rstK k = true ∧ rch (!o.b) o.p o.a l2 < o.q ∧ 100 ≤ l1.length) := by
  unfold pcode at h
  by_cases h1 : okO (oa o) = false
  · rw [if_pos h1] at h; exact absurd h (by decide)
  rw [if_neg h1] at h
  by_cases h2 : k < 1 ∨ 4 < k
  · rw [if_pos h2] at h; exact absurd h (by decide)
  rw [if_neg h2] at h
  by_cases h3 : gt o.n lb ≠ none ∨ gt o.n ls ≠ none
  · rw [if_pos h3] at h; exact absurd h (by decide)
  rw [if_neg h3] at h
  by_cases h4 : k = 3 ∧ rch (!o.b) o.p o.a l2 < o.q
  · rw [if_pos h4] at h; exact absurd h (by decide)
  rw [if_neg h4] at h
  by_cases h5 : k = 4 ∧ 0 < rch (!o.b) o.p o.a l2
  · rw [if_pos h5] at h; exact absurd h (by decide)
  rw [if_neg h5] at h
  by_cases h6 : rstK k = true ∧ rch (!o.b) o.p o.a l2 < o.q ∧ 100 ≤ l1.length
  · rw [if_pos h6] at h; exact absurd h (by decide)
  refine ⟨by simpa using h1, by omega, ?_, ?_, h4, h5, h6⟩
  · by_cases e : gt o.n lb = none
    · exact e
    · exact absurd (.inl e) h3
  · by_cases e : gt o.n ls = none
    · exact e
    · exact absurd (.inr e) h3
theorem plc_er0 {o : Od} {k : Int} {lb ls : List Od} (h : (plcF o k lb ls).er = 0) : pcode o k lb ls (own o.b lb ls) (oth o.b lb ls) = 0 ∧ plcF o k lb ls = came (rstK k) o lb ls := by
  by_cases hc : pcode o k lb ls (own o.b lb ls) (oth o.b lb ls) = 0
  · exact ⟨hc, plc_ok hc⟩
  · rw [plc_er rfl hc] at h
    exact absurd h hc
theorem plc_no {o : Od} {k : Int} {lb ls : List Od} (h : (plcF o k lb ls).er ≠ 0) : plcF o k lb ls = noA (plcF o k lb ls).er lb ls := by
  by_cases hc : pcode o k lb ls (own o.b lb ls) (oth o.b lb ls) = 0
  · rw [plc_ok hc] at h
    exact absurd rfl h
  · rw [plc_er rfl hc]
    rfl
/-- wholly or not at all -/
theorem whole_all {o : Od} {lb ls : List Od} (hi : BiX true lb ls) (h : (plcF o 3 lb ls).er = 0) : (plcF o 3 lb ls).fl = o.q ∧ (plcF o 3 lb ls).lf = 0 ∧ o.q ≤ rch (!o.b) o.p o.a (oth o.b lb ls) := by
  obtain ⟨h1, h2⟩ := plc_er0 h
  obtain ⟨p1, _, _, _, p5, _⟩ := pcode_ok h1
  have hq := okO_q p1
  have hg := (hi.own o.b).inv.gs
  have hl := meet_left (o := o) (left := o.q) (by omega) hg
  obtain ⟨s1, _⟩ := meet_sum (o := o) (left := o.q) (by omega) hg
  have hr : o.q ≤ rch (!o.b) o.p o.a (oth o.b lb ls) := by
    by_cases e : rch (!o.b) o.p o.a (oth o.b lb ls) < o.q
    · exact absurd ⟨rfl, e⟩ p5
    · omega
  rw [h2]
  refine ⟨?_, rfl, hr⟩
  show (meet o o.q (oth o.b lb ls)).filled = o.q
  omega
/-- not to trade -/
theorem whole_post {o : Od} {lb ls : List Od} (hi : BiX true lb ls) (h : (plcF o 4 lb ls).er = 0) : (plcF o 4 lb ls).fl = 0 ∧ (plcF o 4 lb ls).lf = o.q ∧ (plcF o 4 lb ls).tr = [] ∧ rch (!o.b) o.p o.a (oth o.b lb ls) ≤ 0 := by
  obtain ⟨h1, h2⟩ := plc_er0 h
  obtain ⟨p1, _, _, _, _, p6, _⟩ := pcode_ok h1
  have hq := okO_q p1
  have hg := (hi.own o.b).inv.gs
  have hl := meet_left (o := o) (left := o.q) (by omega) hg
  obtain ⟨s1, s2, s3, _⟩ := meet_sum (o := o) (left := o.q) (by omega) hg
  have hp := rch_pos (b := !o.b) (p := o.p) (a := o.a) hg
  have hr : rch (!o.b) o.p o.a (oth o.b lb ls) ≤ 0 := by
    by_cases e : 0 < rch (!o.b) o.p o.a (oth o.b lb ls)
    · exact absurd ⟨rfl, e⟩ p6
    · omega
  have hf : (meet o o.q (oth o.b lb ls)).filled = 0 := by omega
  rw [h2]
  refine ⟨hf, ?_, trQ_nil s3 (s2.trans hf), hr⟩
  show lft true (meet o o.q (oth o.b lb ls)).left = o.q
  rw [lft_yes (by omega)]
  omega
theorem whole_not {o : Od} {lb ls : List Od} (hi : BiX true lb ls) (h1 : (plcF o 3 lb ls).er = 0) (h2 : (plcF o 4 lb ls).er = 0) : False := by
  obtain ⟨_, _, a⟩ := whole_all hi h1
  obtain ⟨_, _, _, b⟩ := whole_post hi h2
  obtain ⟨c, _⟩ := plc_er0 h1
  have := okO_q (pcode_ok c).1
  omega
end Go.Proofs.Ytmjfbilhalkegaa
