/- Texts that UncLaw07 stands on, one behind the other, part 15. Conditions: each theorem names its own. -/
import Derived.Test.YtmjfbilhalkegaaMgUncLaw0714
/-! A book as two lists: what each call keeps (plain). Condition: the lists are a book's. -/
namespace Go.Proofs.Ytmjfbilhalkegaa
set_option linter.unusedVariables false
set_option linter.unusedSimpArgs false

/-- what every book that came of calls is: the side b, and the other one -/
structure InvX (b : Bool) (l1 l2 : List Od) : Prop where
  gb : Good l1
  gs : Good l2
  bb : ∀ x, x ∈ l1 → x.b = b
  bs : ∀ x, x ∈ l2 → x.b = !b
  nb : l1.length ≤ 100
  ns : l2.length ≤ 100
  dis : ((l1 ++ l2).map Od.n).Nodup
theorem InvX.swap {b : Bool} {l1 l2 : List Od} (h : InvX b l1 l2) : InvX (!b) l2 l1 := ⟨h.gs, h.gb, h.bs, fun x hx => by rw [Bool.not_not]; exact h.bb x hx, h.ns, h.nb, by
  have := h.dis
  rw [List.map_append] at this ⊢
  exact (List.perm_append_comm.nodup_iff).1 this⟩
def Inv (lb ls : List Od) : Prop := InvX true lb ls
theorem inv_new : Inv [] [] := ⟨fun x h => (by cases h), fun x h => (by cases h), fun x h => (by cases h), fun x h => (by cases h), by simp, by simp, by simp⟩
/-- of the same number, account, side and price, and no more left -/
structure Lss (y x : Od) : Prop where
  n : y.n = x.n
  a : y.a = x.a
  b : y.b = x.b
  p : y.p = x.p
  q1 : 1 ≤ y.q
  q2 : y.q ≤ x.q
theorem meet_rest {o : Od} : ∀ {l : List Od} {left : Int}, Good l → (∀ y, y ∈ (meet o left l).rest → ∃ x, x ∈ l ∧ Lss y x) ∧ (meet o left l).rest.map Od.n <:+ l.map Od.n
  | [], left, _ => ⟨fun y h => (by cases h), List.suffix_refl _⟩
  | x :: r, left, h => by
    have self : ∀ y, y ∈ x :: r → ∃ z, z ∈ x :: r ∧ Lss y z := fun y hy => ⟨y, hy, rfl, rfl, rfl, rfl, (h.q hy).1, Int.le_refl _⟩
    have up : ∀ l9 : Int, (∀ y, y ∈ (meet o l9 r).rest → ∃ z, z ∈ x :: r ∧ Lss y z) ∧ (meet o l9 r).rest.map Od.n <:+ (x :: r).map Od.n := fun l9 => by
      obtain ⟨h1, h2⟩ := meet_rest (o := o) (l := r) (left := l9) h.tail
      refine ⟨fun y hy => ?_, h2.trans (List.suffix_cons _ _)⟩
      obtain ⟨z, hz, hl⟩ := h1 y hy
      exact ⟨z, by simp [hz], hl⟩
    unfold meet
    split
    · exact ⟨self, List.suffix_refl _⟩
    · split
      · exact ⟨self, List.suffix_refl _⟩
      · split
        · exact up left
        · split
          · refine ⟨fun y hy => ?_, List.suffix_refl _⟩
            rcases List.mem_cons.1 hy with rfl | hy
            · exact ⟨x, by simp, rfl, rfl, rfl, rfl, by show 1 ≤ x.q - left; omega, by show x.q - left ≤ x.q; omega⟩
            · exact self y (by simp [hy])
          · exact up (left - x.q)
theorem good_lss {l l2 : List Od} (h : Good l) (hs : ∀ y, y ∈ l2 → ∃ x, x ∈ l ∧ Lss y x) : Good l2 := fun y hy => by
  obtain ⟨x, hx, e⟩ := hs y hy
  have h1 := h x hx
  have h2 := okO_q h1
  have h3 := okO_left (y := y.q) h1 e.q1 (by have := e.q2; omega)
  have : y = { x with q := y.q } := by
    have e1 := e.n; have e2 := e.a; have e3 := e.b; have e4 := e.p
    cases y; cases x; simp_all
  rw [this]; exact h3
theorem put_perm {b : Bool} {o : Od} : ∀ {l : List Od}, (put b o l).Perm (o :: l)
  | [] => List.Perm.refl _
  | x :: r => by
    unfold put
    split
    · exact List.Perm.refl _
    · exact ((put_perm (l := r)).cons x).trans (List.Perm.swap o x r)
theorem del_sub {n : Int} : ∀ {l : List Od}, (del n l).Sublist l
  | [] => List.Sublist.refl _
  | x :: r => by
    unfold del
    split
    · exact List.sublist_cons_self _ _
    · exact (del_sub (l := r)).cons_cons x
theorem gt_none {n : Int} : ∀ {l : List Od}, gt n l = none ↔ n ∉ l.map Od.n
  | [] => by simp [gt]
  | x :: r => by
    unfold gt
    by_cases e : x.n = n
    · rw [if_pos e]; simp [e]
    · rw [if_neg e, gt_none (l := r)]
      simp
      intro _ h; exact e h.symm
theorem gt_n {n : Int} {o : Od} : ∀ {l : List Od}, gt n l = some o → o.n = n
  | [], h => by cases h
  | x :: r, h => by
    unfold gt at h
    by_cases e : x.n = n
    · rw [if_pos e] at h; cases h; exact e
    · rw [if_neg e] at h; exact gt_n h
theorem del_gone {n : Int} : ∀ {l : List Od}, (l.map Od.n).Nodup → gt n (del n l) = none
  | [], _ => rfl
  | x :: r, h => by
    rw [List.map_cons, List.nodup_cons] at h
    unfold del
    by_cases e : x.n = n
    · rw [if_pos e, gt_none]; rw [← e]; exact h.1
    · rw [if_neg e]
      unfold gt
      rw [if_neg e]; exact del_gone h.2
theorem lw_ns {n q : Int} : ∀ {l : List Od}, (lw n q l).map Od.n = l.map Od.n
  | [] => rfl
  | x :: r => by
    unfold lw
    split
    · simp
    · simp [lw_ns (l := r)]
/-- an order comes: what is left rests -/
theorem invX_come {o : Od} {r b0 : Bool} {lb ls : List Od} (h : InvX b0 lb ls) (ho : okO (oa o) = true) (hb : o.b = b0) (hf1 : gt o.n lb = none) (hf2 : gt o.n ls = none) (hroom : r = true → 0 < (meet o o.q ls).left → lb.length < 100) :
    InvX b0 (rst r o (meet o o.q ls).left lb) (meet o o.q ls).rest := by
  obtain ⟨m1, m2⟩ := meet_rest (o := o) (left := o.q) h.gs
  have gr : Good (meet o o.q ls).rest := good_lss h.gs m1
  have br : ∀ x, x ∈ (meet o o.q ls).rest → x.b = !b0 := fun y hy => by
    obtain ⟨x, hx, e⟩ := m1 y hy
    rw [e.b]; exact h.bs x hx
  have nr : (meet o o.q ls).rest.length ≤ 100 := by
    have := m2.length_le
    simp at this
    have := h.ns
    omega
  have hd := h.dis
  rw [List.map_append, List.nodup_append] at hd
  have d2 : ∀ a, a ∈ lb.map Od.n → ∀ b, b ∈ (meet o o.q ls).rest.map Od.n → a ≠ b := fun a ha b hb => hd.2.2 a ha b (m2.subset hb)
  have d1 : ((meet o o.q ls).rest.map Od.n).Nodup := hd.2.1.sublist m2.sublist
  unfold rst
  split
  · rename_i hc
    have hlen := hroom hc.1 hc.2
    have hM := meet_left (o := o) (l := ls) (left := o.q) (by have := okO_q ho; omega) h.gs
    have hp := rch_pos (b := !o.b) (p := o.p) (a := o.a) h.gs
    have hoq := okO_q ho
    have pp := (put_perm (b := o.b) (o := { o with q := (meet o o.q ls).left }) (l := lb)).map Od.n
    refine ⟨fun y hy => ?_, gr, fun y hy => ?_, br, by rw [put_len]; omega, nr, ?_⟩
    · rcases put_mem hy with rfl | hy
      · exact okO_left ho hc.2 (by omega)
      · exact h.gb y hy
    · rcases put_mem hy with rfl | hy
      · exact hb
      · exact h.bb y hy
    · rw [List.map_append, List.nodup_append]
      refine ⟨(pp.nodup_iff).2 ?_, d1, fun a ha b hb2 => ?_⟩
      · rw [List.map_cons, List.nodup_cons]
        exact ⟨gt_none.1 hf1, hd.1⟩
      · rcases List.mem_cons.1 (pp.mem_iff.1 ha) with rfl | ha
        · intro e
          exact gt_none.1 hf2 (m2.subset (by rw [e]; exact hb2))
        · exact d2 a ha b hb2
  · refine ⟨h.gb, gr, h.bb, br, h.nb, nr, ?_⟩
    rw [List.map_append, List.nodup_append]
    exact ⟨hd.1, d1, d2⟩
theorem invX_del {b0 : Bool} {l1 l2 : List Od} (n : Int) (h : InvX b0 l1 l2) : InvX b0 (del n l1) l2 := by
  have hs := del_sub (n := n) (l := l1)
  refine ⟨fun y hy => h.gb y (hs.subset hy), h.gs, fun y hy => h.bb y (hs.subset hy), h.bs, by have := hs.length_le; have := h.nb; omega, h.ns, ?_⟩
  exact h.dis.sublist ((hs.append (List.Sublist.refl l2)).map Od.n)
theorem invX_lw {b0 : Bool} {l1 l2 : List Od} {o : Od} (n q : Int) (h : InvX b0 l1 l2) (hg : gt n l1 = some o) (h1 : 1 ≤ q) (h2 : q ≤ o.q) : InvX b0 (lw n q l1) l2 := by
  have ho := h.gb o (gt_mem hg)
  have hoq := okO_q ho
  refine ⟨fun y hy => ?_, h.gs, fun y hy => ?_, h.bs, by rw [lw_len]; exact h.nb, h.ns, ?_⟩
  · rcases lw_mem hy with hy | ⟨z, hz, rfl⟩
    · exact h.gb y hy
    · rw [hg] at hz; cases hz; exact okO_left ho h1 (by omega)
  · rcases lw_mem hy with hy | ⟨z, hz, rfl⟩
    · exact h.bb y hy
    · rw [hg] at hz; cases hz; exact h.bb o (gt_mem hg)
  · rw [List.map_append, lw_ns, ← List.map_append]; exact h.dis
/-- no number lies on both sides, nor twice -/
theorem invX_del_gone {b0 : Bool} {l1 l2 : List Od} (n : Int) (h : InvX b0 l1 l2) : gt n (del n l1) = none := by
  have := h.dis
  rw [List.map_append, List.nodup_append] at this
  exact del_gone this.1
theorem invX_other {b0 : Bool} {l1 l2 : List Od} {o : Od} {n : Int} (h : InvX b0 l1 l2) (hg : gt n l1 = some o) : gt n l2 = none := by
  have hd := h.dis
  rw [List.map_append, List.nodup_append] at hd
  refine gt_none.2 fun e => hd.2.2 n ?_ n e rfl
  rw [← gt_n hg]
  exact List.mem_map_of_mem (gt_mem hg)
end Go.Proofs.Ytmjfbilhalkegaa
/-! A book as two lists: the sides' order, and that no order crosses one of another account (plain). Condition: the lists are a book's. -/
namespace Go.Proofs.Ytmjfbilhalkegaa
set_option linter.unusedVariables false
set_option linter.unusedSimpArgs false

/-- a side's order: no later one is better than an earlier one -/
def Srt (b : Bool) (l : List Od) : Prop := (l.map Od.p).Pairwise (fun x y => bet b y x = false)
theorem srt_nil (b : Bool) : Srt b [] := List.Pairwise.nil
theorem meet_ps {o : Od} : ∀ {l : List Od} {left : Int}, (meet o left l).rest.map Od.p <:+ l.map Od.p
  | [], left => List.suffix_refl _
  | x :: r, left => by
    unfold meet
    split
    · exact List.suffix_refl _
    · split
      · exact List.suffix_refl _
      · split
        · exact (meet_ps (l := r) (left := left)).trans (List.suffix_cons _ _)
        · split
          · exact List.suffix_refl _
          · exact (meet_ps (l := r) (left := left - x.q)).trans (List.suffix_cons _ _)
theorem srt_rest {b : Bool} {o : Od} {l : List Od} {left : Int} (h : Srt b l) : Srt b (meet o left l).rest := h.sublist (meet_ps).sublist
theorem srt_del {b : Bool} {n : Int} {l : List Od} (h : Srt b l) : Srt b (del n l) := h.sublist (del_sub.map Od.p)
theorem lw_ps {n q : Int} : ∀ {l : List Od}, (lw n q l).map Od.p = l.map Od.p
  | [] => rfl
  | x :: r => by
    unfold lw
    split
    · simp
    · simp [lw_ps (l := r)]
theorem srt_lw {b : Bool} {n q : Int} {l : List Od} (h : Srt b l) : Srt b (lw n q l) := by unfold Srt; rw [lw_ps]; exact h
theorem bet_trans {b : Bool} {x y z : Int} (h1 : bet b x y = true) (h2 : bet b z y = false) : bet b z x = false := by
  unfold bet at *
  cases b
  · simp at *; omega
  · simp at *; omega
theorem bet_asym {b : Bool} {x y : Int} (h : bet b x y = true) : bet b y x = false := by
  unfold bet at *
  cases b
  · simp at *; omega
  · simp at *; omega
theorem srt_put {b : Bool} {o : Od} : ∀ {l : List Od}, Srt b l → Srt b (put b o l)
  | [], _ => by unfold put Srt; simp
  | x :: r, h => by
    unfold Srt at h
    rw [List.map_cons, List.pairwise_cons] at h
    unfold put
    split
    · rename_i hb
      unfold Srt
      rw [List.map_cons, List.pairwise_cons, List.map_cons, List.pairwise_cons]
      refine ⟨fun y hy => ?_, h⟩
      rcases List.mem_cons.1 hy with rfl | hy
      · exact bet_asym hb
      · exact bet_trans hb (h.1 y hy)
    · rename_i hb
      unfold Srt
      rw [List.map_cons, List.pairwise_cons]
      refine ⟨fun y hy => ?_, srt_put h.2⟩
      obtain ⟨z, hz, rfl⟩ := List.mem_map.1 hy
      rcases put_mem hz with rfl | hz
      · simpa using hb
      · exact h.1 z.p (List.mem_map_of_mem hz)
/-- what is left of an order that has met a side crosses none of it -/
theorem meet_clear {o : Od} : ∀ {l : List Od} {left : Int}, Srt (!o.b) l → 0 < (meet o left l).left → ∀ y, y ∈ (meet o left l).rest → crs o y.p = false
  | [], left, _, _, y, hy => by cases hy
  | x :: r, left, h, h0, y, hy => by
    have ht : Srt (!o.b) r := by
      unfold Srt at h ⊢
      rw [List.map_cons, List.pairwise_cons] at h
      exact h.2
    unfold meet at h0 hy
    split at hy
    · rename_i hl
      rw [if_pos hl] at h0
      have : 0 < left := h0
      omega
    · rename_i hl
      rw [if_neg hl] at h0
      split at hy
      · rename_i hc
        rcases List.mem_cons.1 hy with rfl | hy
        · exact hc
        · unfold Srt at h
          rw [List.map_cons, List.pairwise_cons] at h
          have h1 := h.1 y.p (List.mem_map_of_mem hy)
          have h2 := crs_bet o x.p
          rw [hc] at h2
          have h3 := bet_trans h2 h1
          have h4 := crs_bet o y.p
          cases hcy : crs o y.p with
          | false => rfl
          | true =>
            rw [hcy] at h4
            unfold bet at h2 h1 h4
            unfold crs at hc hcy
            cases hb : o.b <;> rw [hb] at h2 h1 h4 hc hcy <;> simp at h2 h1 h4 hc hcy <;> omega
      · rename_i hc
        rw [if_neg hc] at h0
        split at hy
        · rename_i ha
          rw [if_pos ha] at h0
          exact meet_clear ht h0 y hy
        · rename_i ha
          rw [if_neg ha] at h0
          split at hy
          · rename_i hq
            rw [if_pos hq] at h0
            have : (0 : Int) < 0 := h0
            omega
          · rename_i hq
            rw [if_neg hq] at h0
            exact meet_clear ht h0 y hy
/-- no order of one side is as good as one of the other side that is another account's -/
def Unc (l1 l2 : List Od) : Prop := ∀ x, x ∈ l1 → ∀ y, y ∈ l2 → crs x y.p = true → x.a = y.a
theorem unc_nil : Unc [] [] := fun x h => by cases h
theorem unc_swap {b : Bool} {l1 l2 : List Od} (h : InvX b l1 l2) (hu : Unc l1 l2) : Unc l2 l1 := fun y hy x hx hc => by
  have e1 := h.bb x hx
  have e2 := h.bs y hy
  refine (hu x hx y hy ?_).symm
  unfold crs at hc ⊢
  rw [e1]; rw [e2] at hc
  cases b <;> simpa using hc
theorem unc_come {b0 r : Bool} {o : Od} {l1 l2 : List Od} (h : InvX b0 l1 l2) (hs : Srt (!b0) l2) (hb : o.b = b0) (hu : Unc l1 l2) : Unc (rst r o (meet o o.q l2).left l1) (meet o o.q l2).rest := by
  obtain ⟨m1, _⟩ := meet_rest (o := o) (left := o.q) h.gs
  have base : Unc l1 (meet o o.q l2).rest := fun x hx y hy hc => by
    obtain ⟨z, hz, e⟩ := m1 y hy
    rw [e.a]; rw [e.p] at hc
    exact hu x hx z hz hc
  unfold rst
  split
  · rename_i hc
    intro x hx y hy hxy
    rcases put_mem hx with rfl | hx
    · have := meet_clear (o := o) (by rw [hb]; exact hs) hc.2 y hy
      have e : crs { o with q := (meet o o.q l2).left } y.p = crs o y.p := rfl
      rw [e, this] at hxy; cases hxy
    · exact base x hx y hy hxy
  · exact base
theorem unc_del {n : Int} {l1 l2 : List Od} (hu : Unc l1 l2) : Unc (del n l1) l2 := fun x hx y hy hc => hu x (del_mem hx) y hy hc
theorem unc_lw {n q : Int} {l1 l2 : List Od} (hu : Unc l1 l2) : Unc (lw n q l1) l2 := fun x hx y hy hc => by
  rcases lw_mem hx with hx | ⟨z, hz, rfl⟩
  · exact hu x hx y hy hc
  · exact hu z (gt_mem hz) y hy hc
end Go.Proofs.Ytmjfbilhalkegaa
/-! A book as two lists: all that its calls keep, in one (plain). Condition: the lists are a book's. -/
namespace Go.Proofs.Ytmjfbilhalkegaa
set_option linter.unusedVariables false
set_option linter.unusedSimpArgs false

/-- all that every book is -/
structure BiX (b : Bool) (l1 l2 : List Od) : Prop where
  inv : InvX b l1 l2
  s1 : Srt b l1
  s2 : Srt (!b) l2
  un : Unc l1 l2
theorem BiX.swap {b : Bool} {l1 l2 : List Od} (h : BiX b l1 l2) : BiX (!b) l2 l1 := ⟨h.inv.swap, h.s2, by rw [Bool.not_not]; exact h.s1, unc_swap h.inv h.un⟩
theorem bi_new : BiX true [] [] := ⟨inv_new, srt_nil _, srt_nil _, unc_nil⟩
theorem srt_rst {b r : Bool} {o : Od} {l : List Od} (x : Int) (hb : o.b = b) (h : Srt b l) : Srt b (rst r o x l) := by
  unfold rst
  split
  · rw [hb]; exact srt_put h
  · exact h
theorem BiX.come {b r : Bool} {o : Od} {l1 l2 : List Od} (h : BiX b l1 l2) (ho : okO (oa o) = true) (hb : o.b = b) (hf1 : gt o.n l1 = none) (hf2 : gt o.n l2 = none) (hroom : r = true → 0 < (meet o o.q l2).left → l1.length < 100) :
    BiX b (rst r o (meet o o.q l2).left l1) (meet o o.q l2).rest :=
  ⟨invX_come h.inv ho hb hf1 hf2 hroom, srt_rst _ hb h.s1, srt_rest h.s2, unc_come h.inv h.s2 hb h.un⟩
theorem BiX.del {b : Bool} {l1 l2 : List Od} (n : Int) (h : BiX b l1 l2) : BiX b (del n l1) l2 := ⟨invX_del n h.inv, srt_del h.s1, h.s2, unc_del h.un⟩
theorem BiX.lw {b : Bool} {l1 l2 : List Od} {o : Od} (n q : Int) (h : BiX b l1 l2) (hg : gt n l1 = some o) (h1 : 1 ≤ q) (h2 : q ≤ o.q) : BiX b (lw n q l1) l2 := ⟨invX_lw n q h.inv hg h1 h2, srt_lw h.s1, h.s2, unc_lw h.un⟩
theorem gt_rp {o : Od} {n p q : Int} {l : List Od} (h : gt o.n l = none) : gt (rp o p q).n l = none := h
/-- a replaced order comes anew -/
theorem BiX.anew {b : Bool} {o : Od} {l1 l2 : List Od} {n p q : Int} (h : BiX b l1 l2) (hg : gt n l1 = some o) (ho : okO (oa (rp o p q)) = true) :
    BiX b (rst true (rp o p q) (meet (rp o p q) (rp o p q).q l2).left (Go.Proofs.Ytmjfbilhalkegaa.del n l1)) (meet (rp o p q) (rp o p q).q l2).rest := by
  have hn := gt_n hg
  have hlen := del_len hg
  have hpos : 0 < l1.length := List.length_pos_of_mem (gt_mem hg)
  have hnb := h.inv.nb
  refine (h.del n).come (r := true) ho (h.inv.bb o (gt_mem hg)) ?_ ?_ (fun _ _ => by omega)
  · show gt o.n _ = none
    rw [hn]; exact invX_del_gone n h.inv
  · show gt o.n _ = none
    rw [hn]; exact invX_other h.inv hg
end Go.Proofs.Ytmjfbilhalkegaa
/-! A book's calls as plain functions of its two lists; Place and Replace in one contract each. Condition: the book is one, its lists are a book's. -/
namespace Go.Proofs.Ytmjfbilhalkegaa
set_option linter.unusedVariables false
set_option linter.unusedSimpArgs false
open Go.RowKit Go.Deep

/-- the answer to an order, and the lists behind it -/
structure Ans where
  er : Int
  fl : Int
  lf : Int
  tr : List Tr
  gn : List Int
  lb : List Od
  ls : List Od
def noA (e : Int) (lb ls : List Od) : Ans := ⟨e, 0, 0, [], [], lb, ls⟩
/-- own is the side of o, oth the other one -/
def own (b : Bool) (lb ls : List Od) : List Od := if b then lb else ls
def oth (b : Bool) (lb ls : List Od) : List Od := if b then ls else lb
def came (r : Bool) (o : Od) (lb ls : List Od) : Ans :=
  ⟨0, (meet o o.q (oth o.b lb ls)).filled, lft r (meet o o.q (oth o.b lb ls)).left, (meet o o.q (oth o.b lb ls)).tr, (meet o o.q (oth o.b lb ls)).gone,
    if o.b then rst r o (meet o o.q (oth o.b lb ls)).left (own o.b lb ls) else (meet o o.q (oth o.b lb ls)).rest,
    if o.b then (meet o o.q (oth o.b lb ls)).rest else rst r o (meet o o.q (oth o.b lb ls)).left (own o.b lb ls)⟩
def plcF (o : Od) (k : Int) (lb ls : List Od) : Ans :=
  if pcode o k lb ls (own o.b lb ls) (oth o.b lb ls) = 0 then came (rstK k) o lb ls else noA (pcode o k lb ls (own o.b lb ls) (oth o.b lb ls)) lb ls
def rplF (n p q : Int) (lb ls : List Od) : Ans :=
  match gt n lb with
  | some o => if okO (oa (rp o p q)) = false then noA 2 lb ls else if p = o.p ∧ q ≤ o.q then ⟨0, 0, q, [], [], lw n q lb, ls⟩ else came true (rp o p q) (del n lb) ls
  | none => match gt n ls with
    | some o => if okO (oa (rp o p q)) = false then noA 2 lb ls else if p = o.p ∧ q ≤ o.q then ⟨0, 0, q, [], [], lb, lw n q ls⟩ else came true (rp o p q) lb (del n ls)
    | none => noA 7 lb ls
/-- what a call of Place or Replace leaves -/
structure PA (w w' : World) (e : Ending) (g gb gs base : Nat) (A : Ans) : Prop where
  ex : ∃ vt vg : Value, e = .returned (.tuple #[.agg #[vt, vg, .int .i64 A.fl, .int .i64 A.lf], .int .i64 A.er]) ∧
    w'.ownsRow w.heap.size 46 4 vt A.tr.length (flat (fun i => ta (trs A.tr i)) A.tr.length) ∧ w'.ownsRow w.heap.size 27 1 vg A.gn.length (A.gn.map (Value.int .u64))
  bs : BkS w w' g gb gs base A.lb A.ls
theorem pa_no {w w' : World} {e : Ending} {g gb gs base : Nat} {lb ls : List Od} {c : Int} (h : BkG w g gb gs base lb ls) (he : e = .returned (.tuple #[.agg pl0, .int .i64 c])) (hb : Below w.heap.size w w') : PA w w' e g gb gs base (noA c lb ls) :=
  ⟨⟨_, _, he, World.ownsRow_nil w' _ 46 4, World.ownsRow_nil w' _ 27 1⟩, bks_same h hb⟩
theorem pa_plc {w w' : World} {e : Ending} {g gb gs base : Nat} {o : Od} {r : Bool} {lb ls : List Od} (h : BkG w g gb gs base lb ls)
    (hp : Plc w w' e g #[.pointer (some ⟨gb, 0, none⟩), .pointer (some ⟨gs, 0, none⟩)] (if o.b then gb else gs) (if o.b then gs else gb) base o r (if o.b then lb else ls) (if o.b then ls else lb)) : PA w w' e g gb gs base (came r o lb ls) :=
  ⟨hp.ex, bks_plc h hp⟩
theorem BiX.own {lb ls : List Od} (h : BiX true lb ls) (b : Bool) : BiX b (own b lb ls) (oth b lb ls) := by
  cases b
  · exact h.swap
  · exact h
theorem plc_ok {o : Od} {k : Int} {lb ls : List Od} (h : pcode o k lb ls (Go.Proofs.Ytmjfbilhalkegaa.own o.b lb ls) (oth o.b lb ls) = 0) : plcF o k lb ls = came (rstK k) o lb ls := if_pos h
theorem plc_er {o : Od} {k c : Int} {lb ls : List Od} (h : pcode o k lb ls (Go.Proofs.Ytmjfbilhalkegaa.own o.b lb ls) (oth o.b lb ls) = c) (hc : c ≠ 0) : plcF o k lb ls = noA c lb ls := by
  unfold plcF
  rw [if_neg (by rw [h]; exact hc), h]
theorem place_any {w : World} {g gb gs base : Nat} {lb ls : List Od} (o : Od) (k : Int) (h : BkG w g gb gs base lb ls) (hi : BiX true lb ls) (ho : OkO o) :
    Calls Try.prog 14 #[.pointer (some ⟨g, 0, none⟩), .agg (oa o), .int .u8 k] w fun e w' => PA w w' e g gb gs base (plcF o k lb ls) := by
  have hgd : Good (if o.b then ls else lb) := (hi.own o.b).inv.gs
  by_cases hok : okO (oa o) = true
  case neg =>
    have hok : okO (oa o) = false := by simpa using hok
    have e : plcF o k lb ls = noA 2 lb ls := plc_er (by unfold pcode; rw [if_pos hok]) (by decide)
    rw [e]
    exact (place_bad o k h ho (.inl hok)).mono fun e w' ⟨h1, h2⟩ => pa_no h h1 h2
  have hok' : ¬ okO (oa o) = false := by rw [hok]; decide
  by_cases hk : k < 1 ∨ 4 < k
  · have e : plcF o k lb ls = noA 2 lb ls := plc_er (by unfold pcode; rw [if_neg hok', if_pos hk]) (by decide)
    rw [e]
    exact (place_bad o k h ho (.inr hk)).mono fun e w' ⟨h1, h2⟩ => pa_no h h1 h2
  by_cases ht : gt o.n lb ≠ none ∨ gt o.n ls ≠ none
  · have e : plcF o k lb ls = noA 8 lb ls := plc_er (by unfold pcode; rw [if_neg hok', if_neg hk, if_pos ht]) (by decide)
    rw [e]
    exact (place_twice o k h ho hok (by omega) ht).mono fun e w' ⟨h1, h2⟩ => pa_no h h1 h2
  have hn1 : gt o.n lb = none := by
    by_cases e : gt o.n lb = none
    · exact e
    · exact absurd (.inl e) ht
  have hn2 : gt o.n ls = none := by
    by_cases e : gt o.n ls = none
    · exact e
    · exact absurd (.inr e) ht
  obtain ⟨R, hR⟩ : ∃ R, R = rch (!o.b) o.p o.a (oth o.b lb ls) := ⟨_, rfl⟩
  have pc : pcode o k lb ls (Go.Proofs.Ytmjfbilhalkegaa.own o.b lb ls) (oth o.b lb ls) = if k = 3 ∧ R < o.q then 70 else if k = 4 ∧ 0 < R then 71 else if rstK k = true ∧ R < o.q ∧ 100 ≤ (Go.Proofs.Ytmjfbilhalkegaa.own o.b lb ls).length then 9 else 0 := by
    unfold pcode
    rw [if_neg hok', if_neg hk, if_neg ht, hR]
  have hq := okO_q hok
  obtain hk' | hk' | hk' | hk' : k = 1 ∨ k = 2 ∨ k = 3 ∨ k = 4 := by omega
  · subst hk'
    by_cases hc : R < o.q → (Go.Proofs.Ytmjfbilhalkegaa.own o.b lb ls).length < 100
    · have e : plcF o 1 lb ls = came true o lb ls := plc_ok (by rw [pc, if_neg (fun hh => absurd hh.1 (by decide)), if_neg (fun hh => absurd hh.1 (by decide)), if_neg (fun hh => by have := hc hh.2.1; have := hh.2.2; omega)])
      rw [e]
      exact (place_ok1 o h rfl rfl rfl rfl ho hok hgd hn1 hn2 (by rw [hR] at hc; exact hc)).mono fun e w' hp => pa_plc h hp
    · have h1 : R < o.q := by
        by_cases h1 : R < o.q
        · exact h1
        · exact absurd (fun h2 => absurd h2 h1) hc
      have h2 : 100 ≤ (Go.Proofs.Ytmjfbilhalkegaa.own o.b lb ls).length := by
        by_cases h2 : 100 ≤ (Go.Proofs.Ytmjfbilhalkegaa.own o.b lb ls).length
        · exact h2
        · exact absurd (fun _ => by omega) hc
      have e : plcF o 1 lb ls = noA 9 lb ls := plc_er (by rw [pc, if_neg (fun hh => absurd hh.1 (by decide)), if_neg (fun hh => absurd hh.1 (by decide)), if_pos ⟨rfl, h1, h2⟩]) (by decide)
      rw [e]
      exact (place_9a o h rfl rfl rfl rfl ho hok hgd hn1 hn2 (by rw [hR] at h1; exact ⟨h1, h2⟩)).mono fun e w' ⟨h1, h2⟩ => pa_no h h1 h2
  · subst hk'
    have e : plcF o 2 lb ls = came false o lb ls := plc_ok (by rw [pc, if_neg (fun hh => absurd hh.1 (by decide)), if_neg (fun hh => absurd hh.1 (by decide)), if_neg (fun hh => absurd hh.1 (by decide))])
    rw [e]
    exact (place_ok2 o h rfl rfl rfl rfl ho hok hgd hn1 hn2 trivial).mono fun e w' hp => pa_plc h hp
  · subst hk'
    by_cases hc : R < o.q
    · have e : plcF o 3 lb ls = noA 70 lb ls := plc_er (by rw [pc, if_pos ⟨rfl, hc⟩]) (by decide)
      rw [e]
      exact (place_70 o h rfl rfl rfl rfl ho hok hgd hn1 hn2 (by rw [hR] at hc; exact hc)).mono fun e w' ⟨h1, h2⟩ => pa_no h h1 h2
    · have e : plcF o 3 lb ls = came false o lb ls := plc_ok (by rw [pc, if_neg (fun hh => hc hh.2), if_neg (fun hh => absurd hh.1 (by decide)), if_neg (fun hh => absurd hh.1 (by decide))])
      rw [e]
      exact (place_ok3 o h rfl rfl rfl rfl ho hok hgd hn1 hn2 (by rw [hR] at hc; show o.q ≤ rch (!o.b) o.p o.a (oth o.b lb ls); omega)).mono fun e w' hp => pa_plc h hp
  · subst hk'
    by_cases hc : 0 < R
    · have e : plcF o 4 lb ls = noA 71 lb ls := plc_er (by rw [pc, if_neg (fun hh => absurd hh.1 (by decide)), if_pos ⟨rfl, hc⟩]) (by decide)
      rw [e]
      exact (place_71 o h rfl rfl rfl rfl ho hok hgd hn1 hn2 (by rw [hR] at hc; exact hc)).mono fun e w' ⟨h1, h2⟩ => pa_no h h1 h2
    · by_cases h2 : 100 ≤ (Go.Proofs.Ytmjfbilhalkegaa.own o.b lb ls).length
      · have e : plcF o 4 lb ls = noA 9 lb ls := plc_er (by rw [pc, if_neg (fun hh => absurd hh.1 (by decide)), if_neg (fun hh => hc hh.2), if_pos ⟨rfl, by omega, h2⟩]) (by decide)
        rw [e]
        exact (place_9b o h rfl rfl rfl rfl ho hok hgd hn1 hn2 (by rw [hR] at hc; exact ⟨by show rch (!o.b) o.p o.a (oth o.b lb ls) ≤ 0; omega, h2⟩)).mono fun e w' ⟨h1, h2⟩ => pa_no h h1 h2
      · have e : plcF o 4 lb ls = came true o lb ls := plc_ok (by rw [pc, if_neg (fun hh => absurd hh.1 (by decide)), if_neg (fun hh => hc hh.2), if_neg (fun hh => h2 hh.2.2)])
        rw [e]
        exact (place_ok4 o h rfl rfl rfl rfl ho hok hgd hn1 hn2 (by rw [hR] at hc; exact ⟨by show rch (!o.b) o.p o.a (oth o.b lb ls) ≤ 0; omega, by show (Go.Proofs.Ytmjfbilhalkegaa.own o.b lb ls).length < 100; omega⟩)).mono fun e w' hp => pa_plc h hp
theorem pa_rplb {w w' : World} {e : Ending} {g gb gs base : Nat} {o : Od} {p q : Int} {lb ls : List Od} (hb : o.b = true)
    (h : Rpl w w' e g gb gs base (meet (rp o p q) (rp o p q).q ls) (rst true (rp o p q) (meet (rp o p q) (rp o p q).q ls).left lb) (meet (rp o p q) (rp o p q).q ls).rest) : PA w w' e g gb gs base (came true (rp o p q) lb ls) := by
  have hb' : (rp o p q).b = true := hb
  refine ⟨?_, ?_⟩
  · have := h.ex
    unfold came own oth
    rw [hb']; exact this
  · have := h.bs
    unfold came own oth
    rw [hb']; exact this
theorem pa_rpls {w w' : World} {e : Ending} {g gb gs base : Nat} {o : Od} {p q : Int} {lb ls : List Od} (hb : o.b = false)
    (h : Rpl w w' e g gb gs base (meet (rp o p q) (rp o p q).q lb) (meet (rp o p q) (rp o p q).q lb).rest (rst true (rp o p q) (meet (rp o p q) (rp o p q).q lb).left ls)) : PA w w' e g gb gs base (came true (rp o p q) lb ls) := by
  have hb' : (rp o p q).b = false := hb
  refine ⟨?_, ?_⟩
  · have := h.ex
    unfold came own oth
    rw [hb']; exact this
  · have := h.bs
    unfold came own oth
    rw [hb']; exact this
theorem pa_low {w w' : World} {e : Ending} {g gb gs base : Nat} {q : Int} {lb ls : List Od} (he : e = .returned (.tuple #[.agg (plq q), .int .i64 0])) (hb : BkS w w' g gb gs base lb ls) : PA w w' e g gb gs base ⟨0, 0, q, [], [], lb, ls⟩ :=
  ⟨⟨_, _, he, World.ownsRow_nil w' _ 46 4, World.ownsRow_nil w' _ 27 1⟩, hb⟩
theorem repl_any {w : World} {g gb gs base : Nat} {lb ls : List Od} (n p q : Int) (h : BkG w g gb gs base lb ls) (hi : BiX true lb ls) (hp : F64 p) (hq : F64 q) :
    Calls Try.prog 16 #[.pointer (some ⟨g, 0, none⟩), .int .u64 n, .int .i64 p, .int .i64 q] w fun e w' => PA w w' e g gb gs base (rplF n p q lb ls) := by
  cases h1 : gt n lb with
  | some o =>
    have hb := hi.inv.bb o (gt_mem h1)
    by_cases hok : okO (oa (rp o p q)) = true
    case neg =>
      have hok : okO (oa (rp o p q)) = false := by simpa using hok
      have e : rplF n p q lb ls = noA 2 lb ls := by unfold rplF; rw [h1]; simp only []; rw [if_pos hok]
      rw [e]
      exact (repl_bb n p q h hp hq h1 hok).mono fun e w' ⟨h1, h2⟩ => pa_no h h1 h2
    have hok' : ¬ okO (oa (rp o p q)) = false := by rw [hok]; decide
    by_cases hl : p = o.p ∧ q ≤ o.q
    · have e : rplF n p q lb ls = ⟨0, 0, q, [], [], lw n q lb, ls⟩ := by unfold rplF; rw [h1]; simp only []; rw [if_neg hok', if_pos hl]
      rw [e]
      exact (repl_lb n p q h hp hq h1 hok hl.1 hl.2).mono fun e w' ⟨h1, h2⟩ => pa_low h1 h2
    · have e : rplF n p q lb ls = came true (rp o p q) (del n lb) ls := by unfold rplF; rw [h1]; simp only []; rw [if_neg hok', if_neg hl]
      rw [e]
      have hlen := del_len h1
      have hpos : 0 < lb.length := List.length_pos_of_mem (gt_mem h1)
      have hnb := hi.inv.nb
      exact (repl_nb n p q h hp hq h1 hb hi.inv.gs (by rw [gt_n h1]; exact invX_del_gone n hi.inv) (by omega) hok hl).mono fun e w' hp => pa_rplb hb hp
  | none =>
    cases h2 : gt n ls with
    | some o =>
      have hb := hi.inv.bs o (gt_mem h2)
      by_cases hok : okO (oa (rp o p q)) = true
      case neg =>
        have hok : okO (oa (rp o p q)) = false := by simpa using hok
        have e : rplF n p q lb ls = noA 2 lb ls := by unfold rplF; rw [h1]; simp only []; rw [h2]; simp only []; rw [if_pos hok]
        rw [e]
        exact (repl_bs n p q h hp hq h1 h2 hok).mono fun e w' ⟨h1, h2⟩ => pa_no h h1 h2
      have hok' : ¬ okO (oa (rp o p q)) = false := by rw [hok]; decide
      by_cases hl : p = o.p ∧ q ≤ o.q
      · have e : rplF n p q lb ls = ⟨0, 0, q, [], [], lb, lw n q ls⟩ := by unfold rplF; rw [h1]; simp only []; rw [h2]; simp only []; rw [if_neg hok', if_pos hl]
        rw [e]
        exact (repl_ls n p q h hp hq h1 h2 hok hl.1 hl.2).mono fun e w' ⟨h1, h2⟩ => pa_low h1 h2
      · have e : rplF n p q lb ls = came true (rp o p q) lb (del n ls) := by unfold rplF; rw [h1]; simp only []; rw [h2]; simp only []; rw [if_neg hok', if_neg hl]
        rw [e]
        have hlen := del_len h2
        have hpos : 0 < ls.length := List.length_pos_of_mem (gt_mem h2)
        have hns := hi.inv.ns
        exact (repl_ns n p q h hp hq h1 h2 hb hi.inv.gb (by rw [gt_n h2]; exact invX_del_gone n hi.inv.swap) (by omega) hok hl).mono fun e w' hp => pa_rpls hb hp
    | none =>
      have e : rplF n p q lb ls = noA 7 lb ls := by unfold rplF; rw [h1]; simp only []; rw [h2]
      rw [e]
      exact (repl_n n p q h h1 h2).mono fun e w' ⟨h1, h2⟩ => pa_no h h1 h2
/-- what comes keeps the book one -/
theorem bi_came {r : Bool} {o : Od} {lb ls : List Od} (h : BiX true lb ls) (ho : okO (oa o) = true) (hf1 : gt o.n lb = none) (hf2 : gt o.n ls = none) (hroom : r = true → 0 < (meet o o.q (oth o.b lb ls)).left → (own o.b lb ls).length < 100) : BiX true (came r o lb ls).lb (came r o lb ls).ls := by
  cases hb : o.b with
  | true =>
    rw [hb] at hroom
    unfold came own oth
    rw [hb]
    exact h.come ho hb hf1 hf2 hroom
  | false =>
    rw [hb] at hroom
    unfold came own oth
    rw [hb]
    exact (h.swap.come (r := r) ho hb hf2 hf1 hroom).swap
theorem bi_plc {o : Od} {k : Int} {lb ls : List Od} (h : BiX true lb ls) : BiX true (plcF o k lb ls).lb (plcF o k lb ls).ls := by
  unfold plcF
  by_cases hc : pcode o k lb ls (own o.b lb ls) (oth o.b lb ls) = 0
  · rw [if_pos hc]
    unfold pcode at hc
    by_cases hok : okO (oa o) = false
    · rw [if_pos hok] at hc; exact absurd hc (by decide)
    rw [if_neg hok] at hc
    by_cases hk : k < 1 ∨ 4 < k
    · rw [if_pos hk] at hc; exact absurd hc (by decide)
    rw [if_neg hk] at hc
    by_cases ht : gt o.n lb ≠ none ∨ gt o.n ls ≠ none
    · rw [if_pos ht] at hc; exact absurd hc (by decide)
    rw [if_neg ht] at hc
    have hok' : okO (oa o) = true := by simpa using hok
    have hn1 : gt o.n lb = none := by
      by_cases e : gt o.n lb = none
      · exact e
      · exact absurd (.inl e) ht
    have hn2 : gt o.n ls = none := by
      by_cases e : gt o.n ls = none
      · exact e
      · exact absurd (.inr e) ht
    refine bi_came h hok' hn1 hn2 (fun hr hl => ?_)
    have hq := okO_q hok'
    have hml := meet_left (o := o) (left := o.q) (by omega) (h.own o.b).inv.gs
    rw [hml] at hl
    by_cases h9 : rstK k = true ∧ rch (!o.b) o.p o.a (oth o.b lb ls) < o.q ∧ 100 ≤ (own o.b lb ls).length
    · by_cases h70 : k = 3 ∧ rch (!o.b) o.p o.a (oth o.b lb ls) < o.q
      · rw [if_pos h70] at hc; exact absurd hc (by decide)
      · rw [if_neg h70] at hc
        by_cases h71 : k = 4 ∧ 0 < rch (!o.b) o.p o.a (oth o.b lb ls)
        · rw [if_pos h71] at hc; exact absurd hc (by decide)
        · rw [if_neg h71, if_pos h9] at hc; exact absurd hc (by decide)
    · by_cases hlen : (own o.b lb ls).length < 100
      · exact hlen
      · exact absurd ⟨hr, by omega, by omega⟩ h9
  · rw [if_neg hc]; exact h
theorem bi_rpl {n p q : Int} {lb ls : List Od} (h : BiX true lb ls) : BiX true (rplF n p q lb ls).lb (rplF n p q lb ls).ls := by
  unfold rplF
  cases h1 : gt n lb with
  | some o =>
    have hb := h.inv.bb o (gt_mem h1)
    simp only []
    split
    · exact h
    · rename_i hok
      have hok : okO (oa (rp o p q)) = true := by simpa using hok
      have hq := okO_q hok
      split
      · rename_i hl
        exact h.lw n q h1 hq.1 hl.2
      · have := h.anew h1 hok
        have hb' : (rp o p q).b = true := hb
        unfold came own oth
        rw [hb']; exact this
  | none =>
    simp only []
    cases h2 : gt n ls with
    | some o =>
      have hb := h.inv.bs o (gt_mem h2)
      simp only []
      split
      · exact h
      · rename_i hok
        have hok : okO (oa (rp o p q)) = true := by simpa using hok
        have hq := okO_q hok
        split
        · rename_i hl
          exact (h.swap.lw n q h2 hq.1 hl.2).swap
        · have := (h.swap.anew h2 hok).swap
          have hb' : (rp o p q).b = false := hb
          unfold came own oth
          rw [hb']; exact this
    | none => exact h
/-- Cancel -/
def cnlO (n : Int) (lb ls : List Od) : Option Od := match gt n lb with | some o => some o | none => gt n ls
def cnlB (n : Int) (lb : List Od) : List Od := del n lb
def cnlS (n : Int) (lb ls : List Od) : List Od := if gt n lb = none then del n ls else ls
theorem del_none {n : Int} : ∀ {l : List Od}, gt n l = none → del n l = l
  | [], _ => rfl
  | x :: r, h => by
    unfold gt at h
    unfold del
    by_cases e : x.n = n
    · rw [if_pos e] at h; cases h
    · rw [if_neg e] at h ⊢
      rw [del_none h]
theorem cancel_any {w : World} {g gb gs base : Nat} {lb ls : List Od} (n : Int) (h : BkG w g gb gs base lb ls) :
    Calls Try.prog 17 #[.pointer (some ⟨g, 0, none⟩), .int .u64 n] w fun e w' =>
      e = .returned (.tuple #[.agg (oa ((cnlO n lb ls).getD od0)), .int .i64 (if cnlO n lb ls = none then 7 else 0)]) ∧ BkS w w' g gb gs base (cnlB n lb) (cnlS n lb ls) := by
  unfold cnlO cnlB cnlS
  cases h1 : gt n lb with
  | some o =>
    simp only []
    rw [if_neg (by simp), if_neg (by simp)]
    exact cancel_b n h h1
  | none =>
    simp only []
    simp only [if_true]
    rw [del_none h1]
    cases h2 : gt n ls with
    | some o =>
      rw [if_neg (by simp)]
      exact cancel_s n h h1 h2
    | none =>
      rw [if_pos rfl, del_none h2]
      exact (cancel_n n h h1 h2).mono fun e w' ⟨h1, h2⟩ => ⟨by rw [h1]; rfl, bks_same h h2⟩
theorem bi_cnl {n : Int} {lb ls : List Od} (h : BiX true lb ls) : BiX true (cnlB n lb) (cnlS n lb ls) := by
  unfold cnlB cnlS
  split
  · rename_i h1
    rw [del_none h1]
    exact (h.swap.del n).swap
  · exact h.del n
end Go.Proofs.Ytmjfbilhalkegaa
/-! Drop of a side, and Cancel of a book: the sides' rows do not move. Condition: the side is one, the book is one. -/
namespace Go.Proofs.Ytmjfbilhalkegaa
set_option linter.unusedVariables false
set_option linter.unusedSimpArgs false
open Go.RowKit Go.Deep

/-- the side's row is the same block -/
def Kr (g : Nat) (A B : World) : Prop := ∀ v b, A.heap[g]? = some (.cells #[.bool true, .bool b, v] 77 (0, 0)) → ∃ v', B.heap[g]? = some (.cells #[.bool true, .bool b, v'] 77 (0, 0)) ∧ v'.ownBlock = v.ownBlock
set_option maxRecDepth 100000 in
set_option maxHeartbeats 2000000 in
theorem sdrop_in_r {w : World} {g base k : Nat} {buy : Bool} {L : Nat → Array Value} (n : Int) {i : Nat} (h : SideIs w g base k buy L) (hi : fi (fun j => decide (N (L j) 0 = n)) k = i) :
    Calls Try.prog 33 #[.pointer (some ⟨g, 0, none⟩), .int .u64 n] w fun e w' => e = .returned (.tuple #[.agg (L i), .int .i64 0]) ∧ SideIs w' g base (k - 1) buy (rem L i) ∧ Below base w w' ∧ Ko g w w' ∧ Ks g w w' ∧ Kr g w w' := by
  have h1 := h.kept (below_new w (Obj.cells zo 30))
  have hb0 := below_new w (Obj.cells zo 30)
  have hc := heap_alloc_new w (Obj.cells zo 30)
  have HZ := Lib.hid zo_size
  have HA := Lib.hid zo_all
  have cf := sfind_yes n h1 hi
  have hik := (fi_at k i hi).1
  obtain ⟨gb, rc, A, hR, hbb, hsz, hkr, hrc, htk⟩ := h.at_row (by omega)
  have HR := Lib.hid hR
  have HH := Lib.hid h
  have hgw := (cells_of hR.1).2.2
  have hgb := (cells_of hR.2.1).2.2
  have HOW := Lib.hid (show w.ownsRow base 30 5 (.slice (some ⟨gb, 0, none⟩) k rc) k (flat L k) from ⟨flatc_len (fun i => (h.ord i).size) k, .inr ⟨gb, rc, A, rfl, hbb, hR.2.1, hkr, by unfold maxLen; omega, hsz, htk⟩⟩)
  have HM := Lib.hid (h.ord i).size
  have HMA := Lib.hid (h.ord i).all
  have HMX := Lib.hid (extract_all (h.ord i).size)
  have HOS := Lib.hid h.ord
  have hiz : (i : Int) < k := by omega
  have hk9 := h.hk
  generalize hLi : L i = M at *
  have HLI := Lib.hid hLi
  clear h h1 hi htk hR hLi
  go_enter Try.func33, Try.ntmps33
  go_wp2_with (first | ((with_reducible refine at_alloc 30 ?_); refine wpList_alloc_named rfl 30 rfl zo (by kernel_rfl) ?_) | (go_at_call 44; (with_reducible refine (cf).mono ?_); rintro e w1 ⟨rfl, hb1⟩; have hb01 := below_then hb0 hb1; have hc1 := Ytmjfbilhalkegaa.kept hb1 hc; have hR1 := HR.out.kept hb01; have c1 := cellF hR1.1; have hA1 := hR1.2.1; have hbm := below_then hb01 (below_new w1 (Obj.cells M 30)); have cm := cellF (heap_up (o := Obj.cells M 30) hR1.1); have HX := Lib.hid (hR1.2.2 i hik); clear hR1; have hm1 := heap_alloc_new w1 (Obj.cells M 30); have hcm := heap_up (o := Obj.cells M 30) hc1) | ((with_reducible refine at_load 30 ?_); refine wpList_load_part rfl 30 _ rfl (gb) (i * 5) rfl _ (A) _ _ 5 (hA1) Try.underlying30 rfl (by kernel_rfl) (HX.out.1) (M) (by rw [← HLI.out]; exact HX.out.2) ?_) | ((with_reducible refine at_store 30 ?_); refine wpList_store_new rfl 30 _ _ rfl (M) _ _ _ rfl (by simp) rfl (by rw [HM.out]; kernel_rfl) (by rw [HM.out]; rfl) (HMA.out) ?_) | (go_at_call 45; (with_reducible refine (delo_any base k i L (some ⟨gb, 0, none⟩) rc _ (fun j => (HOS.out j).size) (fun j => (HOS.out j).all) (own_below hbm HOW.out) hik).mono ?_); rintro e w5 ⟨rfl, ho5, hb5, hoth⟩; have hsh := side_shrunk HH.out HR.out.1 hbm (own_below hbm HOW.out) hoth hb5 ho5; have cg5 := cellF hsh.1; have fg5 := (cells_of hsh.1).2.1; have hszw := hb01.size; have hm6 := heap_set_other (g := g) (i := 2) (v := Value.slice (some ⟨gb, 0, none⟩) (k - 1) rc) ((hoth w1.heap.size (by simp [Value.ownBlock]; omega)).trans hm1) (by omega); have hz6 := heap_set_other (g := g) (i := 2) (v := Value.slice (some ⟨gb, 0, none⟩) (k - 1) rc) ((hoth w.heap.size (by simp [Value.ownBlock]; omega)).trans hcm) (by omega)) | ((with_reducible refine at_load 30 ?_); refine wpList_load_part rfl 30 _ rfl (w1.heap.size) (0) rfl _ (M) _ _ 5 (hm6) Try.underlying30 rfl (by kernel_rfl) (by rw [HM.out]; omega) (M) (HMX.out) ?_) | ((with_reducible refine at_store 30 ?_); refine wpList_store_over rfl 30 _ _ rfl (w.heap.size) (M) rfl rfl _ _ (hz6) (by rw [HM.out]; kernel_rfl) (by rw [HM.out]; rfl) (HMA.out) ?_; intro w3 hg5 hs5 ho6 hb6))
  have hB6 := hb6 _ (Nat.le_refl _)
  obtain ⟨hsh1, f1, f2, f3, f4⟩ := hsh
  have hbg := f1.bg
  obtain ⟨vr, hgr, hrow⟩ := f1.row
  have hvr : vr = .slice (some ⟨gb, 0, none⟩) (k - 1) rc := by
    have := heap_set (i := 2) (v := Value.slice (some ⟨gb, 0, none⟩) (k - 1) rc) hsh1
    rw [hgr] at this
    simpa using this
  have hF1 : SideIs w3 g base (k - 1) buy (rem L i) := ⟨⟨vr, (ho6 g (by omega)).trans hgr, hrow.kept (row := some w.heap.size) ⟨hB6.os, hB6.tape, hB6.output, hB6.size, fun j _ hne => ho6 j (fun e => hne (by rw [e]))⟩ (.inr (by rw [hvr]; simp [Value.ownBlock]; omega))⟩, f1.ord, hbg, f1.hk⟩
  refine post_cell_tmp (g := w.heap.size) (t := 30) (v := .int .i64 0) rfl rfl rfl rfl hg5 Try.underlying30 rfl (by rw [HM.out]; kernel_rfl) ⟨rfl, hF1, f2.trans (hB6.mono (by omega)), ?_, fun v b hv => ?_, fun v b hv => ?_⟩
  · exact f3.trans (fun j o ho hj hcc => (ho6 j (fun e => by subst e; rw [hz6] at hcc; exact ho _ _ (Option.some.inj hcc).symm)).trans hcc)
  · have h2 := hv
    rw [HR.out.1] at h2
    simp at h2
    obtain ⟨rfl, rfl⟩ := h2
    exact ⟨fun j hj hne hlt => (ho6 j (by omega)).trans (f4 _ _ hv j hj hne hlt), vr, (ho6 g (by omega)).trans hgr, .inl (by rw [hvr]; rfl)⟩
  · have h2 := hv
    rw [HR.out.1] at h2
    simp at h2
    obtain ⟨rfl, rfl⟩ := h2
    exact ⟨vr, (ho6 g (by omega)).trans hgr, by rw [hvr]; rfl⟩
theorem drop_in_r {w : World} {g base : Nat} {buy : Bool} {l : List Od} {o : Od} (n : Int) (h : SL w g base buy l) (ho : gt n l = some o) :
    Calls Try.prog 33 #[.pointer (some ⟨g, 0, none⟩), .int .u64 n] w fun e w' => e = .returned (.tuple #[.agg (oa o), .int .i64 0]) ∧ SK g base buy (del n l) w w' ∧ Kr g w w' := by
  obtain ⟨i, h1, h2, h3, h4, h5⟩ := ix_some ho
  have hfi : fi (fun j => decide (N (oa (od l j)) 0 = n)) l.length = i := fi_uni h1 (by rw [oa_N0, h2]; exact decide_eq_true h3) (fun j hj => by rw [oa_N0]; exact decide_eq_false (h4 j hj))
  have c := sdrop_in_r n h.s hfi
  rw [h2] at c
  refine c.mono fun e w' ⟨q1, q2, q3, q4, q5, q6⟩ => ⟨q1, ⟨sl_of q2 (by rw [del_len ho]) (fun o ho => h.ok o (del_mem ho)) (fun j hj => ?_), q3, q4, q5⟩, q6⟩
  unfold rem
  rw [h5 j]
  split <;> rfl
/-- the sides' rows are no block that they were not -/
def Nk (gb gs : Nat) (w w' : World) : Prop := (∀ q, Nb gb q true w → Nb gb q true w') ∧ ∀ q, Nb gs q false w → Nb gs q false w'
theorem nk_refl (gb gs : Nat) (w : World) : Nk gb gs w w := ⟨fun _ h => h, fun _ h => h⟩
theorem Nk.trans {gb gs : Nat} {w w' w2 : World} (h : Nk gb gs w w') (h2 : Nk gb gs w' w2) : Nk gb gs w w2 := ⟨fun q hq => h2.1 q (h.1 q hq), fun q hq => h2.2 q (h.2 q hq)⟩
theorem nk_below {w w' : World} {g gb gs base : Nat} {lb ls : List Od} (h : BkG w g gb gs base lb ls) (hb : Below w.heap.size w w') : Nk gb gs w w' := ⟨fun q hq => nb_below h.two.b hq hb, fun q hq => nb_below h.two.s hq hb⟩
theorem nb_rows {w w' : World} {g base q : Nat} {b : Bool} {l : List Od} (h : SL w g base b l) (hn : Nb g q b w) (ho : w'.heap[g]? = w.heap[g]?) : Nb g q b w' := fun v hv => hn v (ho.symm.trans hv)
theorem nb_kr {w w' : World} {g base q : Nat} {b : Bool} {l : List Od} (h : SL w g base b l) (hn : Nb g q b w) (hk : Kr g w w') : Nb g q b w' := fun v hv e => by
  obtain ⟨v0, hg, _⟩ := h.s.row
  obtain ⟨v1, h1, h2⟩ := hk v0 b hg
  obtain ⟨_, rfl⟩ := side_inj h1 hv
  exact hn _ hg (h2.symm.trans e)
theorem nk_buy {w W2 w3 : World} {g gb gs base : Nat} {lb ls l : List Od} (h : BkG w g gb gs base lb ls) (hB : Below w.heap.size w W2) (h2 : BkG W2 g gb gs base lb ls) (hk : SK gb base true l W2 w3) (hr : Kr gb W2 w3) :
    ∀ w4 : World, (∀ k, k ≠ w.heap.size → w4.heap[k]? = w3.heap[k]?) → Nk gb gs w w4 := fun w4 ho => by
  obtain ⟨v1, e1, _⟩ := h.two.b.s.row
  obtain ⟨v2, e2, _⟩ := h.two.s.s.row
  obtain ⟨v3, e3, _⟩ := h2.two.s.s.row
  have l1 := (Array.getElem?_eq_some_iff.1 e1).1
  have l2 := (Array.getElem?_eq_some_iff.1 e2).1
  have hs3 := hk.ko.cells gs _ _ _ (by decide) (fun e => h.two.ne e.symm) e3
  refine ⟨fun q hq => nb_rows hk.s (nb_kr h2.two.b (nb_below h.two.b hq hB) hr) (ho gb (by omega)), fun q hq v hv => ?_⟩
  rw [ho gs (by omega), hs3] at hv
  exact nb_below h.two.s hq hB v (e3.trans hv)
theorem nk_sell {w W2 w3 : World} {g gb gs base : Nat} {lb ls l : List Od} (h : BkG w g gb gs base lb ls) (hB : Below w.heap.size w W2) (h2 : BkG W2 g gb gs base lb ls) (hk : SK gs base false l W2 w3) (hr : Kr gs W2 w3) :
    ∀ w4 : World, (∀ k, k ≠ w.heap.size → w4.heap[k]? = w3.heap[k]?) → Nk gb gs w w4 := fun w4 ho => by
  obtain ⟨v1, e1, _⟩ := h.two.b.s.row
  obtain ⟨v2, e2, _⟩ := h.two.s.s.row
  obtain ⟨v3, e3, _⟩ := h2.two.b.s.row
  have l1 := (Array.getElem?_eq_some_iff.1 e1).1
  have l2 := (Array.getElem?_eq_some_iff.1 e2).1
  have hs3 := hk.ko.cells gb _ _ _ (by decide) h.two.ne e3
  refine ⟨fun q hq v hv => ?_, fun q hq => nb_rows hk.s (nb_kr h2.two.s (nb_below h.two.s hq hB) hr) (ho gs (by omega))⟩
  rw [ho gb (by omega), hs3] at hv
  exact nb_below h.two.b hq hB v (e3.trans hv)
set_option maxRecDepth 100000 in
set_option maxHeartbeats 4000000 in
theorem cancel_b_r {w : World} {g gb gs base : Nat} {lb ls : List Od} {o : Od} (n : Int) (h : BkG w g gb gs base lb ls) (hg : gt n lb = some o) :
    Calls Try.prog 17 #[.pointer (some ⟨g, 0, none⟩), .int .u64 n] w fun e w' => e = .returned (.tuple #[.agg (oa o), .int .i64 0]) ∧ BkS w w' g gb gs base (del n lb) ls ∧ Nk gb gs w w' := by
  have HFN := Lib.hid (fn_b (gb := gb) (gs := gs) (ls := ls) hg)
  have hall := (oa_ord (h.two.b.ok o (gt_mem hg))).all
  have hgr := hg
  have HGR := Lib.hid hgr
  clear hgr
  have hb0 := below_new w (Obj.cells zo 30)
  have hr0 := heap_alloc_new w (Obj.cells zo 30)
  have HH1 := Lib.hid (h.kept hb0)
  have HZ := Lib.hid zo_size
  have HZA := Lib.hid zo_all
  have HTW := Lib.hid h.two
  have HLOW := Lib.hid h.low
  have HH := Lib.hid h
  have HB0 := Lib.hid hb0
  clear h
  have HFZ := Lib.hid (show (oa o).size = 5 from rfl)
  have HFA := Lib.hid hall
  have HG := Lib.hid hg
  generalize hFO : oa o = FO at *
  have HFO := Lib.hid hFO
  clear hFO hall hg
  go_enter Try.func17, Try.ntmps17
  go_wp2_with (first | ((with_reducible refine at_alloc 30 ?_); refine wpList_alloc_named rfl 30 rfl (zo) (by kernel_rfl) ?_) | (go_at_call 25; (with_reducible refine ((bready_yes HH1.out)).mono ?_); rintro e w1' ⟨rfl, rfl⟩) | (go_at_call 27; (with_reducible refine ((find_any n HH1.out)).mono ?_); rintro e w2 ⟨rfl, hb2⟩; rw [HFN.out.1, HFN.out.2]; have hb12 := below_alloc hb2 (Obj.cells FO 30); have hr2 := Ytmjfbilhalkegaa.kept hb12 hr0; have HX9 := Lib.hid (heap_alloc_new w2 (Obj.cells FO 30)); have HH2 := Lib.hid (HH1.out.kept hb12)) | ((with_reducible refine at_store 30 ?_); refine wpList_store_new rfl 30 _ _ rfl FO _ _ _ rfl (by simp) rfl (by rw [HFZ.out]; kernel_rfl) (by rw [HFZ.out]; rfl) HFA.out ?_) | (go_at_call 33; (with_reducible refine ((drop_in_r n HH2.out.two.b HGR.out)).mono ?_); rintro e w3 ⟨rfl, hsk, hkr⟩; rw [HFO.out]; have HFB := Lib.hid (fin_box HH.out (below_then HB0.out hb12) hr2 (bks_buy HH2.out hsk)); have hr3 := HFB.out.1; have HNK := Lib.hid (nk_buy HH.out (below_then HB0.out hb12) HH2.out hsk hkr); clear hsk hkr) | ((with_reducible refine at_store 30 ?_); refine wpList_store_over rfl 30 _ _ rfl (w.heap.size) (FO) rfl rfl _ _ (hr3) (by rw [HFZ.out]; kernel_rfl) (by rw [HFZ.out]; rfl) (HFA.out) ?_; intro w4 hg4 hs4 ho4 hb4))
  exact post_cell_tmp (g := w.heap.size) (t := 30) (v := .int .i64 0) rfl rfl rfl rfl hg4 Try.underlying30 rfl (by rw [HFZ.out]; kernel_rfl) ⟨rfl, HFB.out.2 _ ho4 hb4, HNK.out _ ho4⟩
set_option maxRecDepth 100000 in
set_option maxHeartbeats 4000000 in
theorem cancel_s_r {w : World} {g gb gs base : Nat} {lb ls : List Od} {o : Od} (n : Int) (h : BkG w g gb gs base lb ls) (h1 : gt n lb = none) (hg : gt n ls = some o) :
    Calls Try.prog 17 #[.pointer (some ⟨g, 0, none⟩), .int .u64 n] w fun e w' => e = .returned (.tuple #[.agg (oa o), .int .i64 0]) ∧ BkS w w' g gb gs base lb (del n ls) ∧ Nk gb gs w w' := by
  have HFN := Lib.hid (fn_s (gb := gb) (gs := gs) h1 hg)
  have hall := (oa_ord (h.two.s.ok o (gt_mem hg))).all
  have hgr := hg
  have HGR := Lib.hid hgr
  clear hgr h1
  have hb0 := below_new w (Obj.cells zo 30)
  have hr0 := heap_alloc_new w (Obj.cells zo 30)
  have HH1 := Lib.hid (h.kept hb0)
  have HZ := Lib.hid zo_size
  have HZA := Lib.hid zo_all
  have HTW := Lib.hid h.two
  have HLOW := Lib.hid h.low
  have HH := Lib.hid h
  have HB0 := Lib.hid hb0
  clear h
  have HFZ := Lib.hid (show (oa o).size = 5 from rfl)
  have HFA := Lib.hid hall
  have HG := Lib.hid hg
  generalize hFO : oa o = FO at *
  have HFO := Lib.hid hFO
  clear hFO hall hg
  go_enter Try.func17, Try.ntmps17
  go_wp2_with (first | ((with_reducible refine at_alloc 30 ?_); refine wpList_alloc_named rfl 30 rfl (zo) (by kernel_rfl) ?_) | (go_at_call 25; (with_reducible refine ((bready_yes HH1.out)).mono ?_); rintro e w1' ⟨rfl, rfl⟩) | (go_at_call 27; (with_reducible refine ((find_any n HH1.out)).mono ?_); rintro e w2 ⟨rfl, hb2⟩; rw [HFN.out.1, HFN.out.2]; have hb12 := below_alloc hb2 (Obj.cells FO 30); have hr2 := Ytmjfbilhalkegaa.kept hb12 hr0; have HX9 := Lib.hid (heap_alloc_new w2 (Obj.cells FO 30)); have HH2 := Lib.hid (HH1.out.kept hb12)) | ((with_reducible refine at_store 30 ?_); refine wpList_store_new rfl 30 _ _ rfl FO _ _ _ rfl (by simp) rfl (by rw [HFZ.out]; kernel_rfl) (by rw [HFZ.out]; rfl) HFA.out ?_) | (go_at_call 33; (with_reducible refine ((drop_in_r n HH2.out.two.s HGR.out)).mono ?_); rintro e w3 ⟨rfl, hsk, hkr⟩; rw [HFO.out]; have HFB := Lib.hid (fin_box HH.out (below_then HB0.out hb12) hr2 (bks_sell HH2.out hsk)); have hr3 := HFB.out.1; have HNK := Lib.hid (nk_sell HH.out (below_then HB0.out hb12) HH2.out hsk hkr); clear hsk hkr) | ((with_reducible refine at_store 30 ?_); refine wpList_store_over rfl 30 _ _ rfl (w.heap.size) (FO) rfl rfl _ _ (hr3) (by rw [HFZ.out]; kernel_rfl) (by rw [HFZ.out]; rfl) (HFA.out) ?_; intro w4 hg4 hs4 ho4 hb4))
  exact post_cell_tmp (g := w.heap.size) (t := 30) (v := .int .i64 0) rfl rfl rfl rfl hg4 Try.underlying30 rfl (by rw [HFZ.out]; kernel_rfl) ⟨rfl, HFB.out.2 _ ho4 hb4, HNK.out _ ho4⟩
theorem cancel_anyK {w : World} {g gb gs base : Nat} {lb ls : List Od} (n : Int) (h : BkG w g gb gs base lb ls) :
    Calls Try.prog 17 #[.pointer (some ⟨g, 0, none⟩), .int .u64 n] w fun e w' =>
      (∃ v, e = .returned v) ∧ BkS w w' g gb gs base (cnlB n lb) (cnlS n lb ls) ∧ Nk gb gs w w' := by
  unfold cnlB cnlS
  cases h1 : gt n lb with
  | some o =>
    rw [if_neg (by simp)]
    exact (cancel_b_r n h h1).mono fun e w' ⟨a, b, c⟩ => ⟨⟨_, a⟩, b, c⟩
  | none =>
    rw [if_pos rfl, del_none h1]
    cases h2 : gt n ls with
    | some o => exact (cancel_s_r n h h1 h2).mono fun e w' ⟨a, b, c⟩ => ⟨⟨_, a⟩, b, c⟩
    | none =>
      rw [del_none h2]
      exact (cancel_n n h h1 h2).mono fun e w' ⟨h1, h2⟩ => ⟨⟨_, h1⟩, bks_same h h2, nk_below h h2⟩
end Go.Proofs.Ytmjfbilhalkegaa
