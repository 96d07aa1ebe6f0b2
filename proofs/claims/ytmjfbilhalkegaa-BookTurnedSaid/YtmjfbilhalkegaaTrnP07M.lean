/- A book with all turned: who buys sells, prices p become 1001 - p (plain). Condition: the lists are a book's. -/
import Derived.Test.YtmjfbilhalkegaaNowP07M
import Derived.Test.YtmjfbilhalkegaaTot07M
namespace Go.Proofs.Ytmjfbilhalkegaa
set_option linter.unusedVariables false
set_option linter.unusedSimpArgs false
open Go.RowKit Go.Deep

theorem n_inj' : ∀ {l : List Od} {x y : Od}, (l.map Od.n).Nodup → x ∈ l → y ∈ l → x.n = y.n → x = y
  | [], x, y, _, h, _, _ => by cases h
  | z :: r, x, y, hd, hx, hy, e => by
    rw [List.map_cons, List.nodup_cons] at hd
    rcases List.mem_cons.1 hx with ex | hx2
    · rcases List.mem_cons.1 hy with ey | hy2
      · rw [ex, ey]
      · exact absurd (by rw [← ex, e]; exact List.mem_map_of_mem hy2) hd.1
    · rcases List.mem_cons.1 hy with ey | hy2
      · exact absurd (by rw [← ey, ← e]; exact List.mem_map_of_mem hx2) hd.1
      · exact n_inj' hd.2 hx2 hy2 e
def tn (o : Od) : Od := { o with b := !o.b, p := 1001 - o.p }
def tl (l : List Od) : List Od := l.map tn
def tt (t : Tr) : Tr := { t with p := 1001 - t.p }
def tnA (A : Ans) : Ans := ⟨A.er, A.fl, A.lf, A.tr.map tt, A.gn, tl A.ls, tl A.lb⟩
theorem bet_tn (b : Bool) (p x : Int) : bet (!b) (1001 - p) (1001 - x) = bet b p x := by
  unfold bet
  cases b
  · simp
  · simp
theorem crs_tn (o : Od) (x : Int) : crs (tn o) (1001 - x) = crs o x := by
  unfold crs tn
  cases o.b
  · simp
  · simp
theorem okO_tn {o : Od} (h : 1 ≤ o.p ∧ o.p ≤ 1000) : okO (oa (tn o)) = okO (oa o) := by
  unfold okO
  rw [oa_N0, oa_N0, oa_N1, oa_N1, oa_N3, oa_N3, oa_N4, oa_N4]
  have e1 : inB (tn o).p 1 10000000 = true := inB_iff.2 (by show 1 ≤ 1001 - o.p ∧ 1001 - o.p ≤ 10000000; omega)
  have e2 : inB o.p 1 10000000 = true := inB_iff.2 (by omega)
  rw [e1, e2]
  rfl
theorem tl_len (l : List Od) : (tl l).length = l.length := by simp [tl]
theorem meet_tn (o : Od) : ∀ (l : List Od) (left : Int), meet (tn o) left (tl l) = ⟨tl (meet o left l).rest, (meet o left l).left, (meet o left l).filled, (meet o left l).tr.map tt, (meet o left l).gone⟩
  | [], left => rfl
  | x :: r, left => by
    show meet (tn o) left (tn x :: tl r) = _
    by_cases hl : left ≤ 0
    · rw [meet_done hl, meet_done hl]; rfl
    cases hc : crs o x.p with
    | false =>
      have hc2 : crs (tn o) (tn x).p = false := (crs_tn o x.p).trans hc
      rw [meet_stop hc, meet_stop hc2]; rfl
    | true =>
      have hc2 : crs (tn o) (tn x).p = true := (crs_tn o x.p).trans hc
      unfold meet
      rw [if_neg hl, if_neg hl, if_neg (show ¬ crs (tn o) (tn x).p = false by rw [hc2]; decide), if_neg (show ¬ crs o x.p = false by rw [hc]; decide)]
      by_cases ha : x.a = o.a
      · rw [if_pos ha, if_pos (show (tn x).a = (tn o).a from ha), meet_tn o r left]
        rfl
      · rw [if_neg ha, if_neg (show ¬ (tn x).a = (tn o).a from ha)]
        by_cases hq : left < x.q
        · rw [if_pos hq, if_pos (show left < (tn x).q from hq)]
          rfl
        · rw [if_neg hq, if_neg (show ¬ left < (tn x).q from hq)]
          rw [show (tn x).q = x.q from rfl, meet_tn o r (left - x.q)]
          rfl
theorem put_tn (b : Bool) (o : Od) : ∀ (l : List Od), put (!b) (tn o) (tl l) = tl (put b o l)
  | [] => rfl
  | x :: r => by
    show put (!b) (tn o) (tn x :: tl r) = _
    unfold put
    rw [show bet (!b) (tn o).p (tn x).p = bet b o.p x.p from bet_tn b o.p x.p]
    by_cases h : bet b o.p x.p = true
    · rw [if_pos h, if_pos h]; rfl
    · rw [if_neg h, if_neg h, put_tn b o r]; rfl
theorem gt_tn (n : Int) : ∀ (l : List Od), gt n (tl l) = (gt n l).map tn
  | [] => rfl
  | x :: r => by
    show gt n (tn x :: tl r) = _
    unfold gt
    by_cases h : x.n = n
    · rw [if_pos h, if_pos (show (tn x).n = n from h)]; rfl
    · rw [if_neg h, if_neg (show ¬ (tn x).n = n from h), gt_tn n r]
theorem gt_tn_none {n : Int} {l : List Od} : gt n (tl l) = none ↔ gt n l = none := by
  rw [gt_tn]; cases gt n l <;> simp
theorem del_tn (n : Int) : ∀ (l : List Od), del n (tl l) = tl (del n l)
  | [] => rfl
  | x :: r => by
    show del n (tn x :: tl r) = _
    unfold del
    by_cases h : x.n = n
    · rw [if_pos h, if_pos (show (tn x).n = n from h)]
    · rw [if_neg h, if_neg (show ¬ (tn x).n = n from h), del_tn n r]; rfl
theorem lw_tn (n q : Int) : ∀ (l : List Od), lw n q (tl l) = tl (lw n q l)
  | [] => rfl
  | x :: r => by
    show lw n q (tn x :: tl r) = _
    unfold lw
    by_cases h : x.n = n
    · rw [if_pos h, if_pos (show (tn x).n = n from h)]; rfl
    · rw [if_neg h, if_neg (show ¬ (tn x).n = n from h), lw_tn n q r]; rfl
theorem rch_tn (b : Bool) (p a : Int) : ∀ (l : List Od), rch (!b) (1001 - p) a (tl l) = rch b p a l
  | [] => rfl
  | x :: r => by
    show rch (!b) (1001 - p) a (tn x :: tl r) = _
    unfold rch
    rw [show bet (!b) (1001 - p) (tn x).p = bet b p x.p from bet_tn b p x.p, rch_tn b p a r]
    rfl
theorem own_tn (b : Bool) (lb ls : List Od) : own (!b) (tl ls) (tl lb) = tl (own b lb ls) := by cases b <;> rfl
theorem oth_tn (b : Bool) (lb ls : List Od) : oth (!b) (tl ls) (tl lb) = tl (oth b lb ls) := by cases b <;> rfl
theorem rst_tn (r : Bool) (o : Od) (x : Int) (l : List Od) : rst r (tn o) x (tl l) = tl (rst r o x l) := by
  unfold rst
  by_cases h : r = true ∧ 0 < x
  · rw [if_pos h, if_pos h]
    exact put_tn o.b { o with q := x } l
  · rw [if_neg h, if_neg h]
theorem came_tn (r : Bool) (o : Od) (lb ls : List Od) : came r (tn o) (tl ls) (tl lb) = tnA (came r o lb ls) := by
  unfold came tnA
  rw [show (tn o).b = !o.b from rfl, own_tn, oth_tn, show (tn o).q = o.q from rfl, meet_tn, rst_tn]
  cases o.b <;> rfl
theorem pcode_tn {o : Od} (k : Int) (lb ls : List Od) (h : 1 ≤ o.p ∧ o.p ≤ 1000) : pcode (tn o) k (tl ls) (tl lb) (own (tn o).b (tl ls) (tl lb)) (oth (tn o).b (tl ls) (tl lb)) = pcode o k lb ls (own o.b lb ls) (oth o.b lb ls) := by
  have e1 : (gt (tn o).n (tl ls) ≠ none ∨ gt (tn o).n (tl lb) ≠ none) ↔ (gt o.n lb ≠ none ∨ gt o.n ls ≠ none) := by
    show (gt o.n (tl ls) ≠ none ∨ gt o.n (tl lb) ≠ none) ↔ _
    rw [Ne, Ne, gt_tn_none, gt_tn_none]
    exact Or.comm
  have e2 : rch (!(tn o).b) (tn o).p (tn o).a (oth (tn o).b (tl ls) (tl lb)) = rch (!o.b) o.p o.a (oth o.b lb ls) := by
    rw [show (tn o).b = !o.b from rfl, oth_tn, show (tn o).p = 1001 - o.p from rfl, show (tn o).a = o.a from rfl]
    exact rch_tn (!o.b) o.p o.a _
  have e3 : (own (tn o).b (tl ls) (tl lb)).length = (own o.b lb ls).length := by
    rw [show (tn o).b = !o.b from rfl, own_tn, tl_len]
  unfold pcode
  rw [okO_tn h, e2, e3, show (tn o).q = o.q from rfl]
  by_cases h1 : okO (oa o) = false
  · rw [if_pos h1, if_pos h1]
  rw [if_neg h1, if_neg h1]
  by_cases h2 : k < 1 ∨ 4 < k
  · rw [if_pos h2, if_pos h2]
  rw [if_neg h2, if_neg h2]
  by_cases h3 : gt o.n lb ≠ none ∨ gt o.n ls ≠ none
  · rw [if_pos h3, if_pos (e1.2 h3)]
  · rw [if_neg h3, if_neg (fun hh => h3 (e1.1 hh))]
theorem plc_tn {o : Od} (k : Int) (lb ls : List Od) (h : 1 ≤ o.p ∧ o.p ≤ 1000) : plcF (tn o) k (tl ls) (tl lb) = tnA (plcF o k lb ls) := by
  unfold plcF
  rw [pcode_tn k lb ls h]
  by_cases hc : pcode o k lb ls (own o.b lb ls) (oth o.b lb ls) = 0
  · rw [if_pos hc, if_pos hc, came_tn]
  · rw [if_neg hc, if_neg hc]; rfl
theorem rpl_tn {n p q : Int} {lb ls : List Od} (hi : BiX true lb ls) (h : 1 ≤ p ∧ p ≤ 1000) : rplF n (1001 - p) q (tl ls) (tl lb) = tnA (rplF n p q lb ls) := by
  have ok : ∀ o : Od, okO (oa (rp (tn o) (1001 - p) q)) = okO (oa (rp o p q)) := fun o => okO_tn (o := rp o p q) h
  have eq : ∀ o : Od, (1001 - p = (tn o).p ∧ q ≤ (tn o).q) ↔ (p = o.p ∧ q ≤ o.q) := fun o => by
    show (1001 - p = 1001 - o.p ∧ q ≤ o.q) ↔ _
    constructor
    · rintro ⟨a, b⟩; exact ⟨by omega, b⟩
    · rintro ⟨a, b⟩; exact ⟨by omega, b⟩
  cases h1 : gt n lb with
  | some o =>
    have h2 : gt n ls = none := invX_other hi.inv h1
    have t2 : gt n (tl ls) = none := gt_tn_none.2 h2
    have t1 : gt n (tl lb) = some (tn o) := by rw [gt_tn, h1]; rfl
    unfold rplF
    rw [h1, t2, t1]
    simp only []
    rw [ok o]
    by_cases hc : okO (oa (rp o p q)) = false
    · rw [if_pos hc, if_pos hc]; rfl
    · rw [if_neg hc, if_neg hc]
      by_cases hl : p = o.p ∧ q ≤ o.q
      · rw [if_pos hl, if_pos ((eq o).2 hl), lw_tn]; rfl
      · rw [if_neg hl, if_neg (fun hh => hl ((eq o).1 hh)), del_tn]
        exact came_tn true (rp o p q) (del n lb) ls
  | none =>
    have t1 : gt n (tl lb) = none := gt_tn_none.2 h1
    cases h2 : gt n ls with
    | some o =>
      have t2 : gt n (tl ls) = some (tn o) := by rw [gt_tn, h2]; rfl
      unfold rplF
      rw [h1, t2]
      simp only []
      rw [h2]
      simp only []
      rw [ok o]
      by_cases hc : okO (oa (rp o p q)) = false
      · rw [if_pos hc, if_pos hc]; rfl
      · rw [if_neg hc, if_neg hc]
        by_cases hl : p = o.p ∧ q ≤ o.q
        · rw [if_pos hl, if_pos ((eq o).2 hl), lw_tn]; rfl
        · rw [if_neg hl, if_neg (fun hh => hl ((eq o).1 hh)), del_tn]
          exact came_tn true (rp o p q) lb (del n ls)
    | none =>
      have t2 : gt n (tl ls) = none := gt_tn_none.2 h2
      unfold rplF
      rw [h1, t2]
      simp only []
      rw [h2, t1]
      rfl
theorem cnl_tn {n : Int} {lb ls : List Od} (hi : BiX true lb ls) : cnlB n (tl ls) = tl (cnlS n lb ls) ∧ cnlS n (tl ls) (tl lb) = tl (cnlB n lb) := by
  unfold cnlB cnlS
  rw [del_tn, del_tn]
  cases h1 : gt n lb with
  | some o =>
    have h2 : gt n ls = none := invX_other hi.inv h1
    rw [if_neg (by simp), if_pos (gt_tn_none.2 h2), del_none h2]
    exact ⟨rfl, rfl⟩
  | none =>
    rw [if_pos rfl, del_none h1]
    refine ⟨rfl, ?_⟩
    split <;> rfl
theorem del_filter {n : Int} : ∀ {l : List Od}, (l.map Od.n).Nodup → del n l = l.filter (fun x => !decide (x.n = n))
  | [], _ => rfl
  | x :: r, h => by
    rw [List.map_cons, List.nodup_cons] at h
    unfold del
    by_cases e : x.n = n
    · rw [if_pos e, List.filter_cons_of_neg (by simp [e])]
      symm
      rw [List.filter_eq_self]
      intro y hy
      have hne : y.n ≠ n := fun e2 => h.1 (by rw [e, ← e2]; exact List.mem_map_of_mem hy)
      simp [hne]
    · rw [if_neg e, List.filter_cons_of_pos (by simp [e]), del_filter h.2]
/-- whether an order is not gone behind the first j rounds -/
def ks (a : Int) (L : List Od) : Nat → Od → Bool
  | 0, _ => true
  | j + 1, x => ks a L j x && !(mas a (od L j) && decide (x.n = (od L j).n))
theorem ms_ks {a : Int} {L lb ls : List Od} (hi : BiX true lb ls) : ∀ j, msS a L lb ls j = (lb.filter (ks a L j), ls.filter (ks a L j))
  | 0 => by
    have e : ∀ l : List Od, l.filter (ks a L 0) = l := fun l => List.filter_eq_self.2 (fun _ _ => rfl)
    rw [e, e]; rfl
  | j + 1 => by
    have ih := ms_ks (a := a) (L := L) hi j
    have hb := bi_ms (a := a) (L := L) hi j
    rw [ih] at hb
    have hd := hb.inv.dis
    rw [List.map_append, List.nodup_append] at hd
    cases hm : mas a (od L j) with
    | false =>
      rw [msS_no hm, ih]
      have e : ∀ l : List Od, l.filter (ks a L (j + 1)) = l.filter (ks a L j) := fun l => by
        congr 1
        funext x
        show (ks a L j x && !(mas a (od L j) && _)) = _
        rw [hm]; simp
      rw [e, e]
    | true =>
      rw [msS_yes hm, ih]
      have step : ∀ l : List Od, (l.filter (ks a L j)).filter (fun x => !decide (x.n = (od L j).n)) = l.filter (ks a L (j + 1)) := fun l => by
        rw [List.filter_filter]
        congr 1
        funext x
        show _ = (ks a L j x && !(mas a (od L j) && decide (x.n = (od L j).n)))
        rw [hm, Bool.true_and, Bool.and_comm]
      show (cnlB (od L j).n (lb.filter (ks a L j)), cnlS (od L j).n (lb.filter (ks a L j)) (ls.filter (ks a L j))) = _
      unfold cnlB cnlS
      rw [del_filter hd.1, step]
      congr 1
      by_cases hg : gt (od L j).n (lb.filter (ks a L j)) = none
      · rw [if_pos hg, del_filter hd.2.1, step]
      · rw [if_neg hg, ← step ls]
        symm
        rw [List.filter_eq_self]
        intro y hy
        obtain ⟨x, hx⟩ := Option.ne_none_iff_exists'.1 hg
        have hne : y.n ≠ (od L j).n := fun e => hd.2.2 x.n (List.mem_map_of_mem (gt_mem hx)) y.n (List.mem_map_of_mem hy) (by rw [gt_n hx, e])
        simp [hne]
theorem ks_all {a : Int} {L : List Od} (hd : (L.map Od.n).Nodup) {x : Od} (hx : x ∈ L) : ∀ j, j ≤ L.length → ks a L j x = true ∨ mas a x = true
  | 0, _ => .inl rfl
  | j + 1, hj => by
    rcases ks_all hd hx j (by omega) with h | h
    · by_cases hm : mas a (od L j) = true ∧ x.n = (od L j).n
      · right
        rw [n_inj' hd hx (od_in (l := L) (j := j) (by omega)) hm.2]; exact hm.1
      · left
        show (ks a L j x && !(mas a (od L j) && decide (x.n = (od L j).n))) = true
        rw [h]
        by_cases h1 : mas a (od L j) = true
        · have : ¬ x.n = (od L j).n := fun e => hm ⟨h1, e⟩
          simp [h1, this]
        · simp [h1]
    · exact .inr h
theorem ks_gone {a : Int} {L : List Od} {x : Od} {i : Nat} (hi : od L i = x) (hm : mas a x = true) : ∀ j, i < j → ks a L j x = false
  | 0, h => by omega
  | j + 1, h => by
    show (ks a L j x && !(mas a (od L j) && decide (x.n = (od L j).n))) = false
    by_cases e : i = j
    · subst e
      rw [hi, hm]; simp
    · rw [ks_gone hi hm j (by omega)]; rfl
theorem ms_filter {a : Int} {lb ls : List Od} (hi : BiX true lb ls) : msF a lb ls = (lb.filter (fun x => !mas a x), ls.filter (fun x => !mas a x)) := by
  have key : ∀ x, x ∈ lb ++ ls → ks a (lb ++ ls) (lb ++ ls).length x = !mas a x := fun x hx => by
    cases hm : mas a x with
    | false =>
      rcases ks_all (a := a) hi.inv.dis hx _ (Nat.le_refl _) with h | h
      · rw [h]; rfl
      · rw [hm] at h; cases h
    | true =>
      obtain ⟨i, h1, h2⟩ := List.mem_iff_getElem.1 hx
      rw [ks_gone (i := i) (by unfold od; rw [List.getD_eq_getElem?_getD, List.getElem?_eq_getElem h1]; exact h2) hm _ h1]
      rfl
  unfold msF
  rw [ms_ks hi]
  congr 1
  · exact List.filter_congr (fun x hx => key x (List.mem_append.2 (.inl hx)))
  · exact List.filter_congr (fun x hx => key x (List.mem_append.2 (.inr hx)))
theorem ms_tn {a : Int} {lb ls : List Od} (hi : BiX true lb ls) (hi2 : BiX true (tl ls) (tl lb)) : msF a (tl ls) (tl lb) = (tl (msF a lb ls).2, tl (msF a lb ls).1) := by
  have e : ∀ l : List Od, (tl l).filter (fun x => !mas a x) = tl (l.filter (fun x => !mas a x)) := fun l => by
    unfold tl
    rw [List.filter_map]
    rfl
  rw [ms_filter hi2, ms_filter hi, e, e]
theorem ply_tn {k : Int} {o : Od} {k2 : Int} {lb ls : List Od} (hi : BiX true lb ls) (hi2 : BiX true (tl ls) (tl lb)) (h : 1 ≤ o.p ∧ o.p ≤ 1000) : plyF k (tn o) k2 (tl ls) (tl lb) = (tl (plyF k o k2 lb ls).2, tl (plyF k o k2 lb ls).1) := by
  unfold plyF
  by_cases h1 : k = 1
  · rw [if_pos h1, if_pos h1, plc_tn k2 lb ls h]; rfl
  rw [if_neg h1, if_neg h1]
  by_cases h2 : k = 2
  · rw [if_pos h2, if_pos h2, show (tn o).n = o.n from rfl, show (tn o).p = 1001 - o.p from rfl, show (tn o).q = o.q from rfl, rpl_tn hi h]; rfl
  rw [if_neg h2, if_neg h2]
  by_cases h3 : k = 3
  · rw [if_pos h3, if_pos h3, show (tn o).n = o.n from rfl, (cnl_tn hi).1, (cnl_tn hi).2]
  rw [if_neg h3, if_neg h3]
  by_cases h4 : k = 4
  · rw [if_pos h4, if_pos h4, show (tn o).a = o.a from rfl, ms_tn hi hi2]
  · rw [if_neg h4, if_neg h4]
theorem lQ_tl (l : List Od) : lQ (tl l) = lQ l := by
  unfold lQ tl
  rw [List.map_map]
  rfl
end Go.Proofs.Ytmjfbilhalkegaa
