/- Trades and orders that are the same; what an order that comes has met, trade by trade; an order that is not to rest beside one that rests and is cancelled (plain). Condition: the lists are a book's. -/
import Derived.Test.YtmjfbilhalkegaaWhlP07M
import Derived.Test.YtmjfbilhalkegaaKlM
namespace Go.Proofs.Ytmjfbilhalkegaa
set_option linter.unusedVariables false
set_option linter.unusedSimpArgs false
open Go.RowKit Go.Deep

theorem kl_bool {d o : Nat} {t : TypeId} {cs : List Value} {b : Bool} (hu : Try.prog.underlying t = some .bool) (hc : Try.prog.cellsOf t = 1) (h : cs[o]? = some (.bool b)) :
    ∃ l, Try.prog.keyLits (d + 1) t ((cs.drop o).take (Try.prog.cellsOf t)) = some l := by
  have hlt : o < cs.length := (List.getElem?_eq_some_iff.1 h).1
  have e : (cs.drop o).take 1 = [.bool b] := by
    rw [List.drop_eq_getElem_cons hlt, List.take_succ_cons, List.take_zero, (List.getElem?_eq_some_iff.1 h).2]
  rw [hc, e]
  unfold Program.keyLits
  rw [hu]
  exact ⟨_, rfl⟩
theorem neq_ord {A : Array Value} (h : IsOrd A) (w : World) : (binOp .neq 30 (.agg A) (.agg A)).run Try.prog w = .ok (.bool false) w := by
  have hcs : Try.prog.cellsOf 30 = 5 := by kernel_rfl
  have c2 : Try.prog.cellsOf 2 = 1 := by kernel_rfl
  have c3 : Try.prog.cellsOf 28 = 1 := by kernel_rfl
  have c4 : Try.prog.cellsOf 27 = 1 := by kernel_rfl
  have c5 : Try.prog.cellsOf 4 = 1 := by kernel_rfl
  refine neq_keys Try.underlying30 (by rw [hcs]; exact h.size) (by kernel_rfl) (kl_fields Try.underlying30 (by rw [hcs]; simpa using h.size) (by kernel_rfl) fun f hf => ?_) w
  simp only [List.mem_cons, List.not_mem_nil, or_false] at hf
  rcases hf with rfl | rfl | rfl | rfl | rfl
  · exact kl_int Try.underlying27 c4 (by simpa using h.n)
  · exact kl_int Try.underlying28 c3 (by simpa using h.a)
  · exact kl_bool (b := Bo A 2) Try.underlying4 c5 (by have := h.b; unfold IsB at this; simpa using this)
  · exact kl_int Try.underlying2 c2 (by simpa using h.p)
  · exact kl_int Try.underlying2 c2 (by simpa using h.l)
/-- a trade whose numbers fit their kinds -/
structure OkT (t : Tr) : Prop where
  p : F64 t.p
  q : F64 t.q
  n : 0 ≤ t.n ∧ t.n ≤ 18446744073709551615
  a : 0 ≤ t.a ∧ t.a ≤ 4294967295
theorem neq_tr {t : Tr} (h : OkT t) (w : World) : (binOp .neq 46 (.agg (ta t)) (.agg (ta t))).run Try.prog w = .ok (.bool false) w := by
  have hcs : Try.prog.cellsOf 46 = 4 := by kernel_rfl
  have c2 : Try.prog.cellsOf 2 = 1 := by kernel_rfl
  have c3 : Try.prog.cellsOf 28 = 1 := by kernel_rfl
  have c4 : Try.prog.cellsOf 27 = 1 := by kernel_rfl
  refine neq_keys Try.underlying46 (by rw [hcs]; rfl) (by kernel_rfl) (kl_fields Try.underlying46 (by rw [hcs]; rfl) (by kernel_rfl) fun f hf => ?_) w
  simp only [List.mem_cons, List.not_mem_nil, or_false] at hf
  rcases hf with rfl | rfl | rfl | rfl
  · exact kl_int Try.underlying2 c2 (IsN_of (n := t.p) rfl h.p)
  · exact kl_int Try.underlying2 c2 (IsN_of (n := t.q) rfl h.q)
  · exact kl_int Try.underlying27 c4 (IsN_of (n := t.n) rfl h.n)
  · exact kl_int Try.underlying28 c3 (IsN_of (n := t.a) rfl h.a)
/-- a trade of an order o with a resting one -/
structure TrO (o : Od) (l : List Od) (t : Tr) : Prop where
  ex : ∃ x, x ∈ l ∧ t.p = x.p ∧ t.n = x.n ∧ t.a = x.a ∧ t.q ≤ x.q
  q : 1 ≤ t.q
  a : t.a ≠ o.a
  c : crs o t.p = true
theorem TrO.up {o x : Od} {l : List Od} {t : Tr} (h : TrO o l t) : TrO o (x :: l) t := by
  obtain ⟨y, h1, h2⟩ := h.ex
  exact ⟨⟨y, by simp [h1], h2⟩, h.q, h.a, h.c⟩
theorem meet_tr {o : Od} : ∀ {l : List Od} {left : Int}, Good l → ∀ t, t ∈ (meet o left l).tr → TrO o l t
  | [], left, _, t, h => by cases h
  | x :: r, left, hg, t, h => by
    have hq := hg.q (x := x) (by simp)
    unfold meet at h
    by_cases hl : left ≤ 0
    · rw [if_pos hl] at h; cases h
    rw [if_neg hl] at h
    by_cases hc : crs o x.p = false
    · rw [if_pos hc] at h; cases h
    rw [if_neg hc] at h
    have hc' : crs o x.p = true := by simpa using hc
    by_cases ha : x.a = o.a
    · rw [if_pos ha] at h
      exact (meet_tr hg.tail t h).up
    rw [if_neg ha] at h
    by_cases hq2 : left < x.q
    · rw [if_pos hq2] at h
      have e : t = ⟨x.p, left, x.n, x.a⟩ := by simpa using h
      subst e
      exact ⟨⟨x, by simp, rfl, rfl, rfl, by show left ≤ x.q; omega⟩, by show 1 ≤ left; omega, ha, hc'⟩
    · rw [if_neg hq2] at h
      rcases List.mem_cons.1 h with rfl | h
      · exact ⟨⟨x, by simp, rfl, rfl, rfl, by show x.q ≤ x.q; omega⟩, hq.1, ha, hc'⟩
      · exact (meet_tr hg.tail t h).up
theorem TrO.ok {o : Od} {l : List Od} {t : Tr} (h : TrO o l t) (hl : ∀ x, x ∈ l → OkO x) : OkT t := by
  obtain ⟨x, h1, h2, h3, h4, h5⟩ := h.ex
  have hx := hl x h1
  have h6 := h.q
  have h7 := hx.q
  refine ⟨by rw [h2]; exact hx.p, ?_, by rw [h3]; exact hx.n, by rw [h4]; exact hx.a⟩
  unfold F64 at h7 ⊢
  omega
theorem plc_trs {o : Od} {k : Int} {lb ls : List Od} (hi : BiX true lb ls) : ∀ t, t ∈ (plcF o k lb ls).tr → TrO o (oth o.b lb ls) t := fun t ht => by
  unfold plcF at ht
  by_cases hc : pcode o k lb ls (own o.b lb ls) (oth o.b lb ls) = 0
  · rw [if_pos hc] at ht
    exact meet_tr (hi.own o.b).inv.gs t ht
  · rw [if_neg hc] at ht
    cases ht
theorem trs_in {l : List Tr} {j : Nat} (h : j < l.length) : trs l j ∈ l := by
  unfold trs
  rw [List.getD_eq_getElem?_getD, List.getElem?_eq_getElem h]
  exact List.getElem_mem h
theorem gt_put {b : Bool} {x : Od} : ∀ {l : List Od}, gt x.n l = none → gt x.n (put b x l) = some x
  | [], _ => by unfold put gt; rw [if_pos rfl]
  | y :: r, h => by
    unfold gt at h
    by_cases e : y.n = x.n
    · rw [if_pos e] at h; cases h
    · rw [if_neg e] at h
      unfold put
      split
      · unfold gt; rw [if_pos rfl]
      · unfold gt
        rw [if_neg e]
        exact gt_put h
theorem del_put {b : Bool} {x : Od} : ∀ {l : List Od}, gt x.n l = none → del x.n (put b x l) = l
  | [], _ => by unfold put del; rw [if_pos rfl]
  | y :: r, h => by
    unfold gt at h
    by_cases e : y.n = x.n
    · rw [if_pos e] at h; cases h
    · rw [if_neg e] at h
      unfold put
      split
      · unfold del; rw [if_pos rfl]
      · unfold del
        rw [if_neg e, del_put h]
theorem gt_rest {o : Od} {l : List Od} {left : Int} (hg : Good l) {n : Int} (h : gt n l = none) : gt n (meet o left l).rest = none := by
  rw [gt_none] at h ⊢
  exact fun hm => h ((meet_rest (o := o) (left := left) hg).2.subset hm)
theorem pcode_1 {o : Od} {lb ls l1 l2 : List Od} : pcode o 1 lb ls l1 l2 = if okO (oa o) = false then 2 else if gt o.n lb ≠ none ∨ gt o.n ls ≠ none then 8 else if rch (!o.b) o.p o.a l2 < o.q ∧ 100 ≤ l1.length then 9 else 0 := by
  unfold pcode
  by_cases h1 : okO (oa o) = false
  · rw [if_pos h1, if_pos h1]
  rw [if_neg h1, if_neg h1, if_neg (by omega)]
  by_cases h3 : gt o.n lb ≠ none ∨ gt o.n ls ≠ none
  · rw [if_pos h3, if_pos h3]
  rw [if_neg h3, if_neg h3, if_neg (fun h => absurd h.1 (by decide)), if_neg (fun h => absurd h.1 (by decide))]
  by_cases h4 : rch (!o.b) o.p o.a l2 < o.q ∧ 100 ≤ l1.length
  · rw [if_pos ⟨rfl, h4⟩, if_pos h4]
  · rw [if_neg (fun h => h4 h.2), if_neg h4]
theorem pcode_2 {o : Od} {lb ls l1 l2 : List Od} : pcode o 2 lb ls l1 l2 = if okO (oa o) = false then 2 else if gt o.n lb ≠ none ∨ gt o.n ls ≠ none then 8 else 0 := by
  unfold pcode
  by_cases h1 : okO (oa o) = false
  · rw [if_pos h1, if_pos h1]
  rw [if_neg h1, if_neg h1, if_neg (by omega)]
  by_cases h3 : gt o.n lb ≠ none ∨ gt o.n ls ≠ none
  · rw [if_pos h3, if_pos h3]
  rw [if_neg h3, if_neg h3, if_neg (fun h => absurd h.1 (by decide)), if_neg (fun h => absurd h.1 (by decide)), if_neg (fun h => absurd h.1 (by decide))]
/-- what BookNow holds against each other -/
structure NowL (o : Od) (A B : Ans) : Prop where
  er : A.er = B.er
  fl : A.fl = B.fl
  lf : A.lf = 0
  tr : A.tr = B.tr
  gn : A.gn = B.gn
  yes : 0 < B.lf → cnlO o.n B.lb B.ls = some { o with q := B.lf } ∧ cnlB o.n B.lb = A.lb ∧ cnlS o.n B.lb B.ls = A.ls
  no : ¬ 0 < B.lf → B.lb = A.lb ∧ B.ls = A.ls
theorem now_came {o : Od} {lb ls : List Od} (hi : BiX true lb ls) (hn1 : gt o.n lb = none) (hn2 : gt o.n ls = none) : NowL o (came false o lb ls) (came true o lb ls) := by
  have hg := (hi.own o.b).inv.gs
  refine ⟨rfl, rfl, rfl, rfl, rfl, fun h => ?_, fun h => ?_⟩
  · have h0 : 0 < (meet o o.q (oth o.b lb ls)).left := by
      have h' : 0 < lft true (meet o o.q (oth o.b lb ls)).left := h
      by_cases e : 0 < (meet o o.q (oth o.b lb ls)).left
      · exact e
      · rw [lft_no (fun hh => e hh.2)] at h'; exact absurd h' (by decide)
    have hl : (came true o lb ls).lf = (meet o o.q (oth o.b lb ls)).left := lft_yes h0
    rw [hl]
    have hput : ∀ l, rst true o (meet o o.q (oth o.b lb ls)).left l = put o.b { o with q := (meet o o.q (oth o.b lb ls)).left } l := fun l => if_pos ⟨rfl, h0⟩
    have hno : ∀ l, rst false o (meet o o.q (oth o.b lb ls)).left l = l := fun l => rst_no (fun hh => absurd hh.1 (by decide))
    cases hb : o.b with
    | true =>
      have e1 : (came true o lb ls).lb = put true { o with q := (meet o o.q (oth o.b lb ls)).left } lb := by
        show (if o.b then _ else _) = _
        rw [hput, hb]; rfl
      have e2 : (came false o lb ls).lb = lb := by
        show (if o.b then _ else _) = _
        rw [hno, hb]; rfl
      have e3 : (came true o lb ls).ls = (came false o lb ls).ls := by
        show (if o.b then _ else _) = (if o.b then _ else _)
        rw [hb]; rfl
      have g1 : gt o.n (came true o lb ls).lb = some { o with q := (meet o o.q (oth o.b lb ls)).left } := by
        rw [e1]; exact gt_put (x := { o with q := (meet o o.q (oth o.b lb ls)).left }) hn1
      refine ⟨?_, ?_, ?_⟩
      · unfold cnlO; rw [g1, hb]
      · unfold cnlB; rw [e1, e2]; exact del_put (x := { o with q := (meet o o.q (oth o.b lb ls)).left }) hn1
      · unfold cnlS; rw [g1, if_neg (by simp), e3]
    | false =>
      have e1 : (came true o lb ls).ls = put false { o with q := (meet o o.q (oth o.b lb ls)).left } ls := by
        show (if o.b then _ else _) = _
        rw [hput, hb]; rfl
      have e2 : (came false o lb ls).ls = ls := by
        show (if o.b then _ else _) = _
        rw [hno, hb]; rfl
      have e3 : (came true o lb ls).lb = (came false o lb ls).lb := by
        show (if o.b then _ else _) = (if o.b then _ else _)
        rw [hb]; rfl
      have e4 : (came true o lb ls).lb = (meet o o.q (oth o.b lb ls)).rest := by
        show (if o.b then _ else _) = _
        rw [hb]; rfl
      have g0 : gt o.n (came true o lb ls).lb = none := by
        rw [e4]
        refine gt_rest hg ?_
        unfold oth; rw [hb]; exact hn1
      have g1 : gt o.n (came true o lb ls).ls = some { o with q := (meet o o.q (oth o.b lb ls)).left } := by
        rw [e1]; exact gt_put (x := { o with q := (meet o o.q (oth o.b lb ls)).left }) hn2
      refine ⟨?_, ?_, ?_⟩
      · unfold cnlO; rw [g0]; simp only []; rw [g1, hb]
      · unfold cnlB; rw [del_none g0, e3]
      · unfold cnlS; rw [if_pos g0, e1, e2]; exact del_put (x := { o with q := (meet o o.q (oth o.b lb ls)).left }) hn2
  · have h0 : ¬ 0 < (meet o o.q (oth o.b lb ls)).left := fun e => h (by show 0 < lft true _; rw [lft_yes e]; exact e)
    have hno : ∀ (r : Bool) l, rst r o (meet o o.q (oth o.b lb ls)).left l = l := fun r l => rst_no (fun hh => h0 hh.2)
    refine ⟨?_, ?_⟩
    · show (if o.b then _ else _) = (if o.b then _ else _)
      rw [hno, hno]
    · show (if o.b then _ else _) = (if o.b then _ else _)
      rw [hno, hno]
theorem now_law {o : Od} {lb ls : List Od} (hi : BiX true lb ls) (h9 : (plcF o 1 lb ls).er ≠ 9) : NowL o (plcF o 2 lb ls) (plcF o 1 lb ls) := by
  have c1 := pcode_1 (o := o) (lb := lb) (ls := ls) (l1 := own o.b lb ls) (l2 := oth o.b lb ls)
  have c2 := pcode_2 (o := o) (lb := lb) (ls := ls) (l1 := own o.b lb ls) (l2 := oth o.b lb ls)
  have ref : ∀ c, c ≠ 0 → pcode o 1 lb ls (own o.b lb ls) (oth o.b lb ls) = c → pcode o 2 lb ls (own o.b lb ls) (oth o.b lb ls) = c → NowL o (plcF o 2 lb ls) (plcF o 1 lb ls) := fun c hc e1 e2 => by
    rw [plc_er e1 hc, plc_er e2 hc]
    exact ⟨rfl, rfl, rfl, rfl, rfl, fun h => absurd h (by show ¬ (0:Int) < 0; omega), fun _ => ⟨rfl, rfl⟩⟩
  by_cases h1 : okO (oa o) = false
  · rw [if_pos h1] at c1 c2
    exact ref 2 (by decide) c1 c2
  rw [if_neg h1] at c1 c2
  by_cases h3 : gt o.n lb ≠ none ∨ gt o.n ls ≠ none
  · rw [if_pos h3] at c1 c2
    exact ref 8 (by decide) c1 c2
  rw [if_neg h3] at c1 c2
  by_cases h4 : rch (!o.b) o.p o.a (oth o.b lb ls) < o.q ∧ 100 ≤ (own o.b lb ls).length
  · rw [if_pos h4] at c1
    rw [plc_er c1 (by decide)] at h9
    exact absurd rfl h9
  rw [if_neg h4] at c1
  rw [plc_ok c1, plc_ok c2]
  refine now_came hi ?_ ?_
  · by_cases e : gt o.n lb = none
    · exact e
    · exact absurd (.inl e) h3
  · by_cases e : gt o.n ls = none
    · exact e
    · exact absurd (.inr e) h3
/-- blocks of other types stay -/
theorem bks_T {w w' : World} {g gb gs base q : Nat} {lb ls la lc : List Od} {c : Array Value} {t : TypeId} {fr : Nat × Nat} (h : BkG w g gb gs base lb ls) (hs : BkS w w' g gb gs base la lc) (h1 : t ≠ 77) (h2 : t ≠ 30) (hq : w.heap[q]? = some (.cells c t fr)) : w'.heap[q]? = some (.cells c t fr) := by
  have ns : ∀ {g9 : Nat} {b : Bool} {l : List Od}, SL w g9 base b l → q ≠ g9 ∧ Nb g9 q b w := fun {g9 b l} hl => by
    obtain ⟨v, e, hr⟩ := hl.s.row
    refine ⟨fun e2 => ?_, fun v' hv' e3 => ?_⟩
    · subst e2; rw [e] at hq; injection hq with hq; injection hq with _ hq; exact h1 hq.symm
    · obtain ⟨_, rfl⟩ := side_inj e hv'
      obtain ⟨A9, fr9, h9⟩ := own_tag hr q e3
      rw [h9] at hq; injection hq with hq; injection hq with _ hq; exact h2 hq.symm
  obtain ⟨a1, a2⟩ := ns h.two.b
  obtain ⟨b1, b2⟩ := ns h.two.s
  exact (hs.fr q _ (Array.getElem?_eq_some_iff.1 hq).1 hq a1 b1 a2 b2).1
theorem rowsT_T {w w' : World} {g gb gs base n c : Nat} {lb ls la lc : List Od} {a : Option Addr} {L : Nat → Array Value} {t : TypeId} (h : BkG w g gb gs base lb ls) (hs : BkS w w' g gb gs base la lc) (h1 : t ≠ 77) (h2 : t ≠ 30) (hR : RowsT w t c a n L) : RowsT w' t c a n L := fun i hi => by
  obtain ⟨g9, off, A, fr, e1, e2, e3⟩ := hR i hi
  exact ⟨g9, off, A, fr, e1, bks_T h hs h1 h2 e2, e3⟩
end Go.Proofs.Ytmjfbilhalkegaa
