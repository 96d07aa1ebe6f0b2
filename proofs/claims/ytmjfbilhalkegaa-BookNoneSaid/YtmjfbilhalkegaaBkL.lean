/- A book: what a price reaches, and what is left of an order that meets a side. Condition: the orders may be. -/
import Derived.Test.YtmjfbilhalkegaaBkF
namespace Go.Proofs.Ytmjfbilhalkegaa
set_option linter.unusedVariables false
set_option linter.unusedSimpArgs false
open Go.RowKit Go.Deep

/-- orders that may be -/
def Good (l : List Od) : Prop := ∀ x, x ∈ l → okO (oa x) = true
theorem Good.q {l : List Od} (h : Good l) {x : Od} (hx : x ∈ l) : 1 ≤ x.q ∧ x.q ≤ 1000000 := okO_q (h x hx)
theorem Good.tail {x : Od} {r : List Od} (h : Good (x :: r)) : Good r := fun y hy => h y (by simp [hy])
theorem crs_bet (o : Od) (p : Int) : bet (!o.b) o.p p = !(crs o p) := by
  unfold bet crs
  cases o.b
  · by_cases h : o.p ≤ p
    · simp [h]
    · simp [h]; omega
  · by_cases h : p ≤ o.p
    · simp [h]
    · simp [h]; omega
theorem rch_pos {b : Bool} {p a : Int} : ∀ {l : List Od}, Good l → 0 ≤ rch b p a l
  | [], _ => by unfold rch; omega
  | x :: r, h => by
    have h1 := rch_pos (b := b) (p := p) (a := a) h.tail
    have h2 := h.q (x := x) (by simp)
    unfold rch
    split
    · omega
    · split <;> omega
theorem meet_left {o : Od} : ∀ {l : List Od} {left : Int}, 0 ≤ left → Good l → (meet o left l).left = max 0 (left - rch (!o.b) o.p o.a l)
  | [], left, h0, _ => by
    show left = max 0 (left - 0)
    omega
  | x :: r, left, h0, h => by
    have hp := rch_pos (b := !o.b) (p := o.p) (a := o.a) h
    have hp2 := rch_pos (b := !o.b) (p := o.p) (a := o.a) h.tail
    have hq := h.q (x := x) (by simp)
    by_cases hl : left ≤ 0
    · rw [meet_done hl]; show left = _; omega
    · cases hc : crs o x.p with
      | false =>
        rw [meet_stop hc]
        unfold rch
        rw [crs_bet, hc]
        simp
        omega
      | true =>
        have hb : bet (!o.b) o.p x.p = false := by rw [crs_bet, hc]; rfl
        have hr : rch (!o.b) o.p o.a (x :: r) = (if x.a = o.a then 0 else x.q) + rch (!o.b) o.p o.a r := by
          conv => lhs; unfold rch
          rw [hb, if_neg (by decide)]
        rw [hr]
        unfold meet
        rw [if_neg hl, if_neg (by rw [hc]; decide)]
        by_cases ha : x.a = o.a
        · rw [if_pos ha, if_pos ha]
          show (meet o left r).left = _
          rw [meet_left h0 h.tail]; omega
        · rw [if_neg ha, if_neg ha]
          by_cases hq2 : left < x.q
          · rw [if_pos hq2]
            show (0 : Int) = _
            omega
          · rw [if_neg hq2]
            show (meet o (left - x.q) r).left = _
            rw [meet_left (by omega) h.tail]; omega
/-- the first j, without one's own -/
def sm (a : Int) (l : List Od) : Nat → Int
  | 0 => 0
  | j + 1 => sm a l j + (if (od l j).a = a then 0 else (od l j).q)
theorem sm_cons {a : Int} {x : Od} {r : List Od} : ∀ j, sm a (x :: r) (j + 1) = (if x.a = a then 0 else x.q) + sm a r j
  | 0 => by show 0 + (if x.a = a then 0 else x.q) = _; unfold sm; omega
  | j + 1 => by
    show sm a (x :: r) (j + 1) + (if (od (x :: r) (j + 1)).a = a then 0 else (od (x :: r) (j + 1)).q) = _
    rw [sm_cons j, od_s]
    show _ = _ + (sm a r j + _)
    omega
theorem od_in {l : List Od} {j : Nat} (h : j < l.length) : od l j ∈ l := by
  unfold od
  rw [List.getD_eq_getElem?_getD, List.getElem?_eq_getElem h]
  exact List.getElem_mem h
theorem rchA_sm {a : Int} {l : List Od} (h : Good l) (hl : l.length ≤ 1000) : ∀ j, j ≤ l.length → rchA (fun i => oa (od l i)) a j = sm a l j ∧ 0 ≤ sm a l j ∧ sm a l j ≤ (j : Int) * 1000000
  | 0, _ => ⟨rfl, by unfold sm; omega, by unfold sm; omega⟩
  | j + 1, hj => by
    obtain ⟨h1, h2, h3⟩ := rchA_sm h hl j (by omega)
    have hq := h.q (od_in (l := l) (j := j) (by omega))
    unfold rchA sm
    rw [oa_N1, oa_N4, h1]
    split
    · exact ⟨by omega, by omega, by push_cast; omega⟩
    · refine ⟨?_, by omega, by push_cast; omega⟩
      unfold wrap64
      omega
theorem rch_at {b : Bool} {p a : Int} : ∀ {l : List Od} {j : Nat}, j ≤ l.length → (∀ i, i < j → bet b p (od l i).p = false) → (j = l.length ∨ bet b p (od l j).p = true) → rch b p a l = sm a l j
  | [], j, h1, _, _ => by
    have : j = 0 := by simpa using h1
    subst this; rfl
  | x :: r, 0, h1, h2, h3 => by
    have h4 : bet b p x.p = true := by
      rcases h3 with h3 | h3
      · simp at h3
      · exact h3
    unfold rch
    rw [if_pos h4]; rfl
  | x :: r, j + 1, h1, h2, h3 => by
    have h4 : bet b p x.p = false := h2 0 (by omega)
    unfold rch
    rw [if_neg (by rw [h4]; decide), sm_cons]
    rw [rch_at (l := r) (j := j) (by simpa using h1) (fun i hi => by have := h2 (i + 1) (by omega); rwa [od_s] at this) (by
      rcases h3 with h3 | h3
      · left; simpa using h3
      · right; rwa [od_s] at h3)]
theorem reach_any {w : World} {g base : Nat} {b : Bool} {l : List Od} (p a : Int) (h : SL w g base b l) (hg : Good l) :
    Calls Try.prog 29 #[.pointer (some ⟨g, 0, none⟩), .int .i64 p, .int .u32 a] w fun e w' => e = .returned (.int .i64 (rch b p a l)) ∧ Below w.heap.size w w' := by
  refine (sreach_yes p a h.s).mono ?_
  rintro e w' ⟨⟨j, h1, h2, h3, rfl⟩, hb⟩
  refine ⟨?_, hb⟩
  have h4 : j = l.length ∨ bet b p (od l j).p = true := by
    rcases h3 with h3 | h3
    · exact .inl h3
    · rw [oa_N3] at h3; exact .inr h3
  rw [(rchA_sm hg h.s.hk j h1).1, rch_at h1 (fun i hi => by have := h2 i hi; rwa [oa_N3] at this) h4]
theorem may_any {o : Od} (w : World) (h : OkO o) : Calls Try.prog 26 #[.agg (oa o)] w fun e w' => e = .returned (.bool (okO (oa o))) ∧ Below w.heap.size w w' := omay_any (oa o) w (oa_ord h)
end Go.Proofs.Ytmjfbilhalkegaa
