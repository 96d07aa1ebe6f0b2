/- BookTrades: its plain law: prices in order, sums, and what one's own had (plain). Condition: the lists are a book's. -/
import Derived.Test.YtmjfbilhalkegaaNowP07M
import Derived.Test.YtmjfbilhalkegaaTot07M
namespace Go.Proofs.Ytmjfbilhalkegaa
set_option linter.unusedVariables false
set_option linter.unusedSimpArgs false
open Go.RowKit Go.Deep

/-- the first i of them, together -/
def psum (f : Nat → Int) : Nat → Int
  | 0 => 0
  | i + 1 => psum f i + f i
theorem psum_bd {f : Nat → Int} {c : Int} (hc : 0 ≤ c) : ∀ n, (∀ i, i < n → 0 ≤ f i ∧ f i ≤ c) → 0 ≤ psum f n ∧ psum f n ≤ (n : Int) * c
  | 0, _ => ⟨by show (0:Int) ≤ 0; omega, by show (0:Int) ≤ _; simp⟩
  | n + 1, h => by
    have h1 := psum_bd hc n (fun i hi => h i (by omega))
    have h2 := h n (by omega)
    unfold psum
    push_cast
    rw [Int.add_mul]
    omega
theorem psum_list {α : Type} {f : α → Int} {d : α} : ∀ (l : List α), psum (fun i => f (l.getD i d)) l.length = (l.map f).sum := fun l => by
  have gen : ∀ k, k ≤ l.length → psum (fun i => f (l.getD i d)) k = ((l.take k).map f).sum := fun k => by
    induction k with
    | zero => intro _; simp [psum]
    | succ k ih =>
      intro hk
      have e : l.take (k + 1) = l.take k ++ [l.getD k d] := by
        rw [List.take_add_one, List.getElem?_eq_getElem (by omega), List.getD_eq_getElem?_getD, List.getElem?_eq_getElem (by omega)]; rfl
      rw [e, List.map_append, List.sum_append]
      unfold psum
      rw [ih (by omega)]
      simp
  rw [gen _ (Nat.le_refl _), List.take_length]
theorem psum_hit {n q : Int} : ∀ {G : List Int}, G.Nodup → (G.map (fun g => if g = n then q else 0)).sum = if n ∈ G then q else 0
  | [], _ => by simp
  | g :: r, h => by
    rw [List.nodup_cons] at h
    rw [List.map_cons, List.sum_cons, psum_hit h.2]
    by_cases e : g = n
    · subst e
      rw [if_pos rfl, if_neg h.1, if_pos (by simp)]; omega
    · rw [if_neg e]
      by_cases e2 : n ∈ r
      · rw [if_pos e2, if_pos (by simp [e2])]; omega
      · rw [if_neg e2, if_neg (by simp [e2, Ne.symm e])]; omega
theorem meet_tr_ps {o : Od} : ∀ {l : List Od} {left : Int}, ((meet o left l).tr.map Tr.p).Sublist (l.map Od.p)
  | [], left => List.Sublist.refl _
  | x :: r, left => by
    unfold meet
    split
    · exact List.nil_sublist _
    · split
      · exact List.nil_sublist _
      · split
        · exact (meet_tr_ps (o := o) (l := r) (left := left)).cons _
        · split
          · show ([x.p] : List Int).Sublist (x.p :: r.map Od.p)
            exact (List.nil_sublist _).cons_cons _
          · exact (meet_tr_ps (o := o) (l := r) (left := left - x.q)).cons_cons x.p
theorem meet_gone_ns {o : Od} : ∀ {l : List Od} {left : Int}, (meet o left l).gone.Sublist (l.map Od.n)
  | [], left => List.Sublist.refl _
  | x :: r, left => by
    unfold meet
    split
    · exact List.nil_sublist _
    · split
      · exact List.nil_sublist _
      · split
        · exact (meet_gone_ns (o := o) (l := r) (left := left)).cons_cons x.n
        · split
          · exact List.nil_sublist _
          · exact (meet_gone_ns (o := o) (l := r) (left := left - x.q)).cons x.n
theorem meet_gone_a {o : Od} : ∀ {l : List Od} {left : Int} {g : Int}, g ∈ (meet o left l).gone → ∃ x, x ∈ l ∧ x.n = g ∧ x.a = o.a
  | [], left, g, h => by cases h
  | x :: r, left, g, h => by
    unfold meet at h
    split at h
    · cases h
    · split at h
      · cases h
      · split at h
        · rename_i ha
          rcases List.mem_cons.1 h with rfl | h
          · exact ⟨x, by simp, rfl, ha⟩
          · obtain ⟨y, h1, h2⟩ := meet_gone_a h
            exact ⟨y, by simp [h1], h2⟩
        · split at h
          · cases h
          · obtain ⟨y, h1, h2⟩ := meet_gone_a h
            exact ⟨y, by simp [h1], h2⟩
/-- what those have that are gone -/
def gQ (G : List Int) (l : List Od) : Int := (l.map (fun x => if x.n ∈ G then x.q else 0)).sum
theorem gQ_cons (G : List Int) (x : Od) (l : List Od) : gQ G (x :: l) = (if x.n ∈ G then x.q else 0) + gQ G l := by simp [gQ]
theorem gQ_app (G : List Int) (l1 l2 : List Od) : gQ G (l1 ++ l2) = gQ G l1 + gQ G l2 := by simp [gQ]
theorem gQ_none {G : List Int} : ∀ {l : List Od}, (∀ x, x ∈ l → x.n ∉ G) → gQ G l = 0
  | [], _ => rfl
  | x :: r, h => by rw [gQ_cons, if_neg (h x (by simp)), gQ_none (fun y hy => h y (by simp [hy]))]; rfl
theorem gQ_congr {G G' : List Int} : ∀ {l : List Od}, (∀ x, x ∈ l → (x.n ∈ G ↔ x.n ∈ G')) → gQ G l = gQ G' l
  | [], _ => rfl
  | x :: r, h => by
    rw [gQ_cons, gQ_cons, gQ_congr (fun y hy => h y (by simp [hy]))]
    by_cases e : x.n ∈ G
    · rw [if_pos e, if_pos ((h x (by simp)).1 e)]
    · rw [if_neg e, if_neg (fun e2 => e ((h x (by simp)).2 e2))]
theorem meet_all {o : Od} : ∀ {l : List Od} {left : Int}, (l.map Od.n).Nodup → lQ l = lQ (meet o left l).rest + (meet o left l).filled + gQ (meet o left l).gone l
  | [], left, _ => rfl
  | x :: r, left, h => by
    have hd := h
    rw [List.map_cons, List.nodup_cons] at h
    have none0 : gQ [] (x :: r) = 0 := gQ_none (fun _ _ => by simp)
    have notr : ∀ left9, x.n ∉ (meet o left9 r).gone := fun left9 hm => h.1 ((meet_gone_ns (o := o) (l := r) (left := left9)).subset hm)
    unfold meet
    split
    · show lQ (x :: r) = lQ (x :: r) + 0 + gQ [] (x :: r); rw [none0]; omega
    · split
      · show lQ (x :: r) = lQ (x :: r) + 0 + gQ [] (x :: r); rw [none0]; omega
      · split
        · have ih := meet_all (o := o) (l := r) (left := left) h.2
          show lQ (x :: r) = lQ (meet o left r).rest + (meet o left r).filled + gQ (x.n :: (meet o left r).gone) (x :: r)
          rw [gQ_cons, if_pos (by simp), lQ_cons, ih]
          have : gQ (x.n :: (meet o left r).gone) r = gQ (meet o left r).gone r := gQ_congr (fun y hy => by
            have hne : y.n ≠ x.n := fun e => h.1 (by rw [← e]; exact List.mem_map_of_mem hy)
            simp [hne])
          rw [this]; omega
        · split
          · show lQ (x :: r) = lQ ({ x with q := x.q - left } :: r) + left + gQ [] (x :: r)
            rw [none0, lQ_cons, lQ_cons]
            show x.q + lQ r = x.q - left + lQ r + left + 0
            omega
          · have ih := meet_all (o := o) (l := r) (left := left - x.q) h.2
            show lQ (x :: r) = lQ (meet o (left - x.q) r).rest + (x.q + (meet o (left - x.q) r).filled) + gQ (meet o (left - x.q) r).gone (x :: r)
            rw [gQ_cons, if_neg (notr _), lQ_cons, ih]; omega
theorem lQ_put {b : Bool} {o : Od} : ∀ {l : List Od}, lQ (put b o l) = o.q + lQ l
  | [] => by unfold put; rw [lQ_cons]
  | x :: r => by
    unfold put
    split
    · rw [lQ_cons]
    · rw [lQ_cons, lQ_put, lQ_cons]; omega
theorem n_inj : ∀ {l : List Od} {x y : Od}, (l.map Od.n).Nodup → x ∈ l → y ∈ l → x.n = y.n → x = y
  | [], x, y, _, h, _, _ => by cases h
  | z :: r, x, y, hd, hx, hy, e => by
    rw [List.map_cons, List.nodup_cons] at hd
    rcases List.mem_cons.1 hx with ex | hx2
    · rcases List.mem_cons.1 hy with ey | hy2
      · rw [ex, ey]
      · exact absurd (by rw [← ex, e]; exact List.mem_map_of_mem hy2) hd.1
    · rcases List.mem_cons.1 hy with ey | hy2
      · exact absurd (by rw [← ey, ← e]; exact List.mem_map_of_mem hx2) hd.1
      · exact n_inj hd.2 hx2 hy2 e
/-- what BookTrades looks at -/
structure TrdL (o : Od) (lb ls : List Od) (A : Ans) : Prop where
  t : ∀ i, i < A.tr.length → 1 ≤ (trs A.tr i).q ∧ (trs A.tr i).q ≤ 1000000 ∧ (trs A.tr i).a ≠ o.a ∧ (o.b = true → (trs A.tr i).p ≤ o.p) ∧ (o.b = false → o.p ≤ (trs A.tr i).p)
  s : ∀ i, i + 1 < A.tr.length → (o.b = true → (trs A.tr i).p ≤ (trs A.tr (i + 1)).p) ∧ (o.b = false → (trs A.tr (i + 1)).p ≤ (trs A.tr i).p)
  sum : psum (fun i => (trs A.tr i).q) A.tr.length = A.fl
  g : ∀ i, i < (lb ++ ls).length → ∀ k, k < A.gn.length → A.gn.getD k 0 = (od (lb ++ ls) i).n → (od (lb ++ ls) i).a = o.a ∧ (od (lb ++ ls) i).b ≠ o.b
  ow : ∃ G, psum (fun i => psum (fun k => if A.gn.getD k 0 = (od (lb ++ ls) i).n then (od (lb ++ ls) i).q else 0) A.gn.length) (lb ++ ls).length = G ∧ lQ (oth o.b A.lb A.ls) = lQ (oth o.b lb ls) - A.fl - G ∧ 0 ≤ G ∧ G ≤ 200000000
  own1 : lQ (own o.b A.lb A.ls) = lQ (own o.b lb ls) + A.lf
  le : A.fl + A.lf ≤ o.q
  tl : A.tr.length ≤ 100
  gl : A.gn.length ≤ 100
  f0 : 0 ≤ A.fl ∧ A.fl ≤ 1000000
  l0 : 0 ≤ A.lf ∧ A.lf ≤ 1000000
theorem pair_next {l : List Int} {R : Int → Int → Prop} (h : l.Pairwise R) {i : Nat} (hi : i + 1 < l.length) : R (l[i]'(by omega)) (l[i + 1]'hi) := List.pairwise_iff_getElem.1 h i (i + 1) (by omega) hi (by omega)
theorem trd_came {r : Bool} {o : Od} {lb ls : List Od} (hi : BiX true lb ls) (ho : okO (oa o) = true) (hroom : True) : TrdL o lb ls (came r o lb ls) := by
  have hx := hi.own o.b
  have hg := hx.inv.gs
  have hq := okO_q ho
  obtain ⟨s1, s2, s3, s4⟩ := meet_sum (o := o) (left := o.q) (by omega) hg
  have ht : ∀ t, t ∈ (came r o lb ls).tr → TrO o (oth o.b lb ls) t := fun t h => meet_tr hg t h
  have hlen : (meet o o.q (oth o.b lb ls)).tr.length ≤ (oth o.b lb ls).length := by
    have := (meet_tr_ps (o := o) (l := oth o.b lb ls) (left := o.q)).length_le
    simpa using this
  have hglen : (meet o o.q (oth o.b lb ls)).gone.length ≤ (oth o.b lb ls).length := by
    have := (meet_gone_ns (o := o) (l := oth o.b lb ls) (left := o.q)).length_le
    simpa using this
  have hns := hx.inv.ns
  have hdis := hx.inv.dis
  rw [List.map_append, List.nodup_append] at hdis
  have hall := meet_all (o := o) (left := o.q) hdis.2.1
  have hrest : lQ (oth o.b (came r o lb ls).lb (came r o lb ls).ls) = lQ (meet o o.q (oth o.b lb ls)).rest := by
    show lQ (if o.b then (if o.b then _ else _) else (if o.b then _ else _)) = _
    cases o.b <;> rfl
  have hown : lQ (own o.b (came r o lb ls).lb (came r o lb ls).ls) = lQ (rst r o (meet o o.q (oth o.b lb ls)).left (own o.b lb ls)) := by
    show lQ (if o.b then (if o.b then _ else _) else (if o.b then _ else _)) = _
    cases o.b <;> rfl
  have hl : 0 ≤ lft r (meet o o.q (oth o.b lb ls)).left ∧ lft r (meet o o.q (oth o.b lb ls)).left ≤ (meet o o.q (oth o.b lb ls)).left := by
    unfold lft
    split <;> omega
  have hf0 : 0 ≤ (meet o o.q (oth o.b lb ls)).filled := by rw [← s2]; exact trQ_pos s3
  refine ⟨fun i h => ?_, fun i h => ?_, ?_, fun i h k hk e => ?_, ?_, ?_, ?_, ?_, ?_, ?_, ?_⟩
  · have h1 := ht _ (trs_in h)
    obtain ⟨x, h2, h3, h4, h5, h6⟩ := h1.ex
    have h7 := hg.q h2
    have hc := h1.c
    unfold crs at hc
    refine ⟨h1.q, by omega, h1.a, fun e => ?_, fun e => ?_⟩
    · rw [e] at hc; simpa using hc
    · rw [e] at hc; simpa using hc
  · have hs : ((came r o lb ls).tr.map Tr.p).Pairwise (fun x y => bet (!o.b) y x = false) := List.Pairwise.sublist (meet_tr_ps (o := o) (l := oth o.b lb ls) (left := o.q)) hx.s2
    have hi1 : i + 1 < ((came r o lb ls).tr.map Tr.p).length := by simpa using h
    have hp := pair_next hs hi1
    have e1 : ∀ j, (hj : j < (came r o lb ls).tr.length) → ((came r o lb ls).tr.map Tr.p)[j]'(by simpa using hj) = (trs (came r o lb ls).tr j).p := fun j hj => by
      rw [List.getElem_map]
      unfold trs
      rw [List.getD_eq_getElem?_getD, List.getElem?_eq_getElem hj]; rfl
    rw [e1 i (by omega), e1 (i + 1) h] at hp
    unfold bet at hp
    refine ⟨fun e => ?_, fun e => ?_⟩
    · rw [e] at hp; simp at hp; omega
    · rw [e] at hp; simp at hp; omega
  · have := psum_list (f := Tr.q) (d := ⟨0, 0, 0, 0⟩) (came r o lb ls).tr
    exact this.trans s2
  · have hm : (od (lb ++ ls) i).n ∈ (meet o o.q (oth o.b lb ls)).gone := by
      rw [← e, List.getD_eq_getElem?_getD, List.getElem?_eq_getElem hk]
      exact List.getElem_mem hk
    obtain ⟨x, h1, h2, h3⟩ := meet_gone_a hm
    have hin : od (lb ++ ls) i ∈ lb ++ ls := od_in h
    have hin2 : x ∈ lb ++ ls := by
      unfold oth at h1
      split at h1
      · exact List.mem_append.2 (.inr h1)
      · exact List.mem_append.2 (.inl h1)
    have hd := hi.inv.dis
    have same : od (lb ++ ls) i = x := n_inj hd hin hin2 h2.symm
    rw [same]
    refine ⟨h3, ?_⟩
    have := hx.inv.bs x h1
    rw [this]
    cases o.b <;> decide
  · have hgn : (meet o o.q (oth o.b lb ls)).gone.Nodup := hdis.2.1.sublist (meet_gone_ns (o := o) (left := o.q))
    have e1 : psum (fun i => psum (fun k => if (meet o o.q (oth o.b lb ls)).gone.getD k 0 = (od (lb ++ ls) i).n then (od (lb ++ ls) i).q else 0) (meet o o.q (oth o.b lb ls)).gone.length) (lb ++ ls).length = gQ (meet o o.q (oth o.b lb ls)).gone (lb ++ ls) := by
      have inner : ∀ x : Od, psum (fun k => if (meet o o.q (oth o.b lb ls)).gone.getD k 0 = x.n then x.q else 0) (meet o o.q (oth o.b lb ls)).gone.length = if x.n ∈ (meet o o.q (oth o.b lb ls)).gone then x.q else 0 := fun x => by
        rw [psum_list (f := fun g => if g = x.n then x.q else 0) (d := 0), psum_hit hgn]
      have e2 : (fun i => psum (fun k => if (meet o o.q (oth o.b lb ls)).gone.getD k 0 = (od (lb ++ ls) i).n then (od (lb ++ ls) i).q else 0) (meet o o.q (oth o.b lb ls)).gone.length) = fun i => (fun x : Od => if x.n ∈ (meet o o.q (oth o.b lb ls)).gone then x.q else 0) ((lb ++ ls).getD i od0) := by
        funext i
        exact inner (od (lb ++ ls) i)
      rw [e2, psum_list (f := fun x : Od => if x.n ∈ (meet o o.q (oth o.b lb ls)).gone then x.q else 0) (d := od0)]
      rfl
    have e3 : gQ (meet o o.q (oth o.b lb ls)).gone (lb ++ ls) = gQ (meet o o.q (oth o.b lb ls)).gone (oth o.b lb ls) := by
      have hz : gQ (meet o o.q (oth o.b lb ls)).gone (own o.b lb ls) = 0 := gQ_none (fun x hx9 hm => by
        have := (meet_gone_ns (o := o) (l := oth o.b lb ls) (left := o.q)).subset hm
        exact hdis.2.2 _ (List.mem_map_of_mem hx9) _ this rfl)
      rw [gQ_app]
      unfold own oth at *
      cases hb : o.b <;> rw [hb] at hz <;> simp only [Bool.false_eq_true, if_false, if_true] at hz ⊢ <;> omega
    refine ⟨gQ (meet o o.q (oth o.b lb ls)).gone (oth o.b lb ls), e1.trans e3, ?_, ?_, ?_⟩
    · rw [hrest]
      show _ = _ - (meet o o.q (oth o.b lb ls)).filled - _
      omega
    · unfold gQ
      have pos : ∀ (G : List Int) (l : List Od), Good l → 0 ≤ gQ G l := fun G l hgl => by
        induction l with
        | nil => show (0:Int) ≤ 0; omega
        | cons x r ih =>
          have := ih hgl.tail
          have := hgl.q (x := x) (by simp)
          rw [gQ_cons]; split <;> omega
      exact pos _ _ hg
    · have h1 := (lQ_bd hg).2
      have h2 := (lQ_bd (good_lss hg (meet_rest (o := o) (left := o.q) hg).1)).1
      have h3 : ((oth o.b lb ls).length : Int) ≤ 100 := by omega
      omega
  · rw [hown]
    show _ = lQ (own o.b lb ls) + lft r (meet o o.q (oth o.b lb ls)).left
    by_cases e : r = true ∧ 0 < (meet o o.q (oth o.b lb ls)).left
    · rw [show rst r o (meet o o.q (oth o.b lb ls)).left (own o.b lb ls) = put o.b { o with q := (meet o o.q (oth o.b lb ls)).left } (own o.b lb ls) from if_pos e, show lft r (meet o o.q (oth o.b lb ls)).left = (meet o o.q (oth o.b lb ls)).left from if_pos e, lQ_put]
      show (meet o o.q (oth o.b lb ls)).left + _ = _
      omega
    · rw [rst_no e, lft_no e]; omega
  · show (meet o o.q (oth o.b lb ls)).filled + lft r (meet o o.q (oth o.b lb ls)).left ≤ o.q
    omega
  · show (meet o o.q (oth o.b lb ls)).tr.length ≤ 100
    omega
  · show (meet o o.q (oth o.b lb ls)).gone.length ≤ 100
    omega
  · show 0 ≤ (meet o o.q (oth o.b lb ls)).filled ∧ (meet o o.q (oth o.b lb ls)).filled ≤ 1000000
    omega
  · show 0 ≤ lft r (meet o o.q (oth o.b lb ls)).left ∧ lft r (meet o o.q (oth o.b lb ls)).left ≤ 1000000
    omega
theorem trd_plc {o : Od} {k : Int} {lb ls : List Od} (hi : BiX true lb ls) (h : (plcF o k lb ls).er = 0) : TrdL o lb ls (plcF o k lb ls) := by
  obtain ⟨h1, h2⟩ := plc_er0 h
  rw [h2]
  exact trd_came hi (pcode_ok h1).1 trivial
end Go.Proofs.Ytmjfbilhalkegaa
