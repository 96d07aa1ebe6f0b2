/- Texts that UncLaw07 stands on, one behind the other, part 9. Conditions: each theorem names its own. -/
import Derived.Test.YtmjfbilhalkegaaMgUncLaw078
import Derived.WalkMore
/-! A book: an order comes, walked. Condition: the book is one, the order may come. -/
namespace Go.Proofs.Ytmjfbilhalkegaa
set_option linter.unusedVariables false
set_option linter.unusedSimpArgs false
open Go.RowKit Go.Deep

/-- what was met so far, and what is met yet -/
def acc (fl : Int) (tr : List Tr) (gn : List Int) (M : Met) : Met := { M with filled := fl + M.filled, tr := tr ++ M.tr, gone := gn ++ M.gone }
theorem meet_done {o : Od} {left : Int} {l : List Od} (h : left ≤ 0) : meet o left l = ⟨l, left, 0, [], []⟩ := by
  cases l with
  | nil => rfl
  | cons x r => unfold meet; rw [if_pos h]
theorem meet_stop {o x : Od} {left : Int} {r : List Od} (h : crs o x.p = false) : meet o left (x :: r) = ⟨x :: r, left, 0, [], []⟩ := by
  unfold meet
  by_cases h0 : left ≤ 0
  · rw [if_pos h0]
  · rw [if_neg h0, if_pos h]
theorem acc_end {fl : Int} {tr : List Tr} {gn : List Int} {l : List Od} {left : Int} : acc fl tr gn ⟨l, left, 0, [], []⟩ = ⟨l, left, fl, tr, gn⟩ := by
  unfold acc; simp
theorem acc_own {o x : Od} {left fl : Int} {tr : List Tr} {gn : List Int} {r : List Od} (h0 : 0 < left) (hc : crs o x.p = true) (ha : x.a = o.a) : acc fl tr gn (meet o left (x :: r)) = acc fl tr (gn ++ [x.n]) (meet o left r) := by
  conv => lhs; unfold meet
  rw [if_neg (by omega), if_neg (by rw [hc]; decide), if_pos ha]
  unfold acc; simp
theorem acc_part {o x : Od} {left fl : Int} {tr : List Tr} {gn : List Int} {r : List Od} (h0 : 0 < left) (hc : crs o x.p = true) (ha : x.a ≠ o.a) (hq : left < x.q) : acc fl tr gn (meet o left (x :: r)) = acc (fl + left) (tr ++ [⟨x.p, left, x.n, x.a⟩]) gn (meet o 0 ({ x with q := x.q - left } :: r)) := by
  conv => lhs; unfold meet
  rw [if_neg (by omega), if_neg (by rw [hc]; decide), if_neg ha, if_pos hq, meet_done (Int.le_refl _)]
  unfold acc; simp
theorem acc_all {o x : Od} {left fl : Int} {tr : List Tr} {gn : List Int} {r : List Od} (h0 : 0 < left) (hc : crs o x.p = true) (ha : x.a ≠ o.a) (hq : ¬ left < x.q) : acc fl tr gn (meet o left (x :: r)) = acc (fl + x.q) (tr ++ [⟨x.p, x.q, x.n, x.a⟩]) gn (meet o (left - x.q) r) := by
  conv => lhs; unfold meet
  rw [if_neg (by omega), if_neg (by rw [hc]; decide), if_neg ha, if_neg hq]
  unfold acc
  simp
  omega
theorem tr_step {o x : Od} {left fl : Int} {tr : List Tr} {gn : List Int} {r : List Od} (h0 : 0 < left) (hc : crs o x.p = true) (ha : x.a ≠ o.a) (hxq : 1 ≤ x.q) :
    ∃ (nn : Int) (l9 : List Od), min left x.q = nn ∧ 1 ≤ nn ∧ nn ≤ left ∧ nn ≤ x.q ∧ (∀ y, y ∈ l9 → y ∈ r ∨ (y = { x with q := x.q - nn } ∧ nn < x.q)) ∧
      acc fl tr gn (meet o left (x :: r)) = acc (fl + nn) (tr ++ [⟨x.p, nn, x.n, x.a⟩]) gn (meet o (left - nn) l9) ∧ l9.length + (if 0 < left - nn then 1 else 0) ≤ r.length + 1 ∧ l9.length ≤ r.length + 1 ∧
      2 * l9.length + (if 0 < left - nn then 1 else 0) < 2 * (r.length + 1) + 1 ∧
      ∀ (w : World) (g base : Nat) (buy : Bool), SL w g base buy (x :: r) → Calls Try.prog 42 #[.pointer (some ⟨g, 0, none⟩), .int .i64 nn] w fun e w' => (∃ v, e = .returned (.tuple #[.agg v, .int .i64 0])) ∧ SK g base buy l9 w w' := by
  by_cases hq : left < x.q
  · refine ⟨left, { x with q := x.q - left } :: r, by omega, by omega, by omega, by omega, fun y hy => ?_, ?_, ?_, by simp, ?_, fun w g base buy h => fill_part left h (by omega) hq⟩
    · rcases List.mem_cons.1 hy with rfl | hy
      · exact .inr ⟨rfl, hq⟩
      · exact .inl hy
    · rw [acc_part h0 hc ha hq, Int.sub_self]
    · rw [if_neg (by omega)]; simp
    · rw [if_neg (by omega)]; simp
  · refine ⟨x.q, r, by omega, hxq, by omega, by omega, fun y hy => .inl hy, acc_all h0 hc ha hq, ?_, by omega, ?_, fun w g base buy h => fill_whole h hxq⟩
    · split <;> omega
    · split <;> omega
theorem trs_app {tr : List Tr} {t : Tr} : flat (fun i => ta (trs (tr ++ [t]) i)) (tr ++ [t]).length = flat (fun i => ta (trs tr i)) tr.length ++ (ta t).toList := by
  have e : trs (tr ++ [t]) tr.length = t := by unfold trs; simp
  rw [List.length_append, show [t].length = 1 from rfl, flat, e]
  congr 1
  refine flat_congr _ (fun i hi => ?_)
  unfold trs
  simp [List.getElem?_append_left hi]
/-- where the loop stands -/
structure Lst (w0 w : World) (g : Nat) (AB : Array Value) (g1 g2 base bo bp : Nat) (o : Od) (l1 l2 l : List Od) (left fl : Int) (tr : List Tr) (gn : List Int) (vt vg : Value) : Prop where
  c : Cst w0 w g AB g1 g2 base bo bp o l1 l left fl tr gn vt vg
  ok : ∀ x, x ∈ l → okO (oa x) = true
  lf : 0 ≤ left ∧ left ≤ 1000000
  sm : fl + left = o.q
  ln : tr.length + gn.length + l.length + (if 0 < left then 1 else 0) ≤ 2000 ∧ l.length ≤ 1000
  eq : meet o o.q l2 = acc fl tr gn (meet o left l)
def pl0 : Array Value := #[.slice none 0 0, .slice none 0 0, .int .i64 0, .int .i64 0]
theorem info_tr : ∃ i z, Try.prog.info? 46 = some i ∧ i.zero = some z ∧ i.size = 4 ∧ i.bytes ≤ 1000 ∧ z.cells.size = 4 := by
  have h : (Try.prog.info? 46).map (fun i => (i.size, decide (i.bytes ≤ 1000), i.zero.map (·.cells.size))) = some (4, true, some 4) := by kernel_rfl
  cases hi : Try.prog.info? 46 with
  | none => simp [hi] at h
  | some i =>
    simp [hi] at h
    obtain ⟨h1, h2, z, h3, h4⟩ := h
    exact ⟨i, z, rfl, h3, h1, h2, h4⟩
theorem info_u64 : ∃ i z, Try.prog.info? 27 = some i ∧ i.zero = some z ∧ i.size = 1 ∧ i.bytes ≤ 1000 ∧ z.cells.size = 1 := by
  have h : (Try.prog.info? 27).map (fun i => (i.size, decide (i.bytes ≤ 1000), i.zero.map (·.cells.size))) = some (1, true, some 1) := by kernel_rfl
  cases hi : Try.prog.info? 27 with
  | none => simp [hi] at h
  | some i =>
    simp [hi] at h
    obtain ⟨h1, h2, z, h3, h4⟩ := h
    exact ⟨i, z, rfl, h3, h1, h2, h4⟩
theorem okO_q {x : Od} (h : okO (oa x) = true) : 1 ≤ x.q ∧ x.q ≤ 1000000 := by
  simp only [okO, Bool.and_eq_true, Bool.not_eq_true', decide_eq_false_iff_not, inB_iff, oa_N4] at h
  exact h.2
theorem results_cellB {fn : Func} {P : Program} {p : Tmp} {ty : TypeId} (h : fn.results = #[.cell p ty]) (tmps : Array Value) (w : World) (g : Nat) (t : TypeId) (cs : Array Value) (d : TypeDesc)
    (hp : tmps.getD p undef = .pointer (some ⟨g, 0, none⟩)) (hg : w.heap[g]? = some (.cells cs t (0, 0)))
    (hu : P.underlying ty = some d) (hd : (match d with | .struct _ | .array _ _ => true | _ => false) = true) (hi : (P.info? ty).map (·.size) = some cs.size) :
    (results fn tmps).run P w = .ok (.agg cs) w := results_cell_row h tmps w g t cs (0, 0) d hp hg hu hd hi
theorem own_formB {w : World} {base n c : Nat} {e : TypeId} {v : Value} {xs : List Value} (h : w.ownsRow base e c v n xs) : ∃ a cp, v = .slice a n cp := by
  obtain ⟨_, ⟨rfl, rfl⟩ | ⟨g, cap, cur, rfl, _⟩⟩ := h
  · exact ⟨none, 0, rfl⟩
  · exact ⟨_, _, rfl⟩
theorem okO_left {o : Od} {y : Int} (h : okO (oa o) = true) (h1 : 1 ≤ y) (h2 : y ≤ 1000000) : okO (oa { o with q := y }) = true := by
  simp only [okO, Bool.and_eq_true, Bool.not_eq_true', decide_eq_false_iff_not, inB_iff, oa_N0, oa_N1, oa_N3, oa_N4] at h ⊢
  exact ⟨h.1, h1, h2⟩
theorem pl_all {a b : Option Addr} {n c m d : Nat} {x y : Int} : (#[Value.slice a n c, .slice b m d, .int .i64 x, .int .i64 y] : Array Value).all (·.oneCell') = true := all_one fun i v hv => by
  have hi : i < 4 := (Array.getElem?_eq_some_iff.1 hv).1
  have : i = 0 ∨ i = 1 ∨ i = 2 ∨ i = 3 := by omega
  rcases this with rfl | rfl | rfl | rfl <;> (cases hv; rfl)
theorem u1_all (x : Int) : (#[Value.int .u64 x] : Array Value).all (·.oneCell') = true := all_one fun i v hv => by
  have hi : i < 1 := (Array.getElem?_eq_some_iff.1 hv).1
  have : i = 0 := by omega
  subst this; cases hv; rfl
theorem ta_all (t : Tr) : (ta t).all (·.oneCell') = true := all_one fun i v hv => by
  have hi : i < 4 := (Array.getElem?_eq_some_iff.1 hv).1
  have : i = 0 ∨ i = 1 ∨ i = 2 ∨ i = 3 := by omega
  rcases this with rfl | rfl | rfl | rfl <;> (cases hv; rfl)
theorem off_kt {w w' : World} {q : Nat} {A : Array Value} {t : TypeId} {fr : Nat × Nat} (hq : w.heap[q]? = some (Obj.cells A t fr)) (h1 : t ≠ 77) (h2 : t ≠ 30) (ho : ∀ i, i ≠ q → w'.heap[i]? = w.heap[i]?) : Kt w w' := fun p B u fr2 hp ht => by
  refine (ho p (fun e => ?_)).trans hp
  subst e
  rw [hq] at hp; injection hp with hp; injection hp with _ hp
  subst hp
  rcases ht with ht | ht
  · exact h1 ht
  · exact h2 ht
theorem off_ty {w w' : World} {q p : Nat} {A B : Array Value} {t u : TypeId} {fr fr2 : Nat × Nat} (hq : w.heap[q]? = some (Obj.cells A t fr)) (ho : ∀ i, i ≠ q → w'.heap[i]? = w.heap[i]?) (hp : w.heap[p]? = some (Obj.cells B u fr2)) (hne : u ≠ t) : w'.heap[p]? = some (Obj.cells B u fr2) := (ho p (fun e => by
  subst e; rw [hq] at hp; injection hp with hp; injection hp with _ hp; exact hne hp.symm)).trans hp
def lft (rests : Bool) (x : Int) : Int := if rests = true ∧ 0 < x then x else 0
def rst (rests : Bool) (o : Od) (x : Int) (l : List Od) : List Od := if rests = true ∧ 0 < x then put o.b { o with q := x } l else l
theorem lft_no {rests : Bool} {x : Int} (h : ¬ (rests = true ∧ 0 < x)) : lft rests x = 0 := if_neg h
theorem rst_no {rests : Bool} {o : Od} {x : Int} {l : List Od} (h : ¬ (rests = true ∧ 0 < x)) : rst rests o x l = l := if_neg h
theorem lft_yes {x : Int} (h : 0 < x) : lft true x = x := if_pos ⟨rfl, h⟩
theorem rst_yes {o : Od} {x : Int} {l : List Od} (h : 0 < x) : rst true o x l = put o.b { o with q := x } l := if_pos ⟨rfl, h⟩
theorem own_at {w : World} {base n c : Nat} {e : TypeId} {v : Value} {xs : List Value} (h : w.ownsRow base e c v n xs) : ∀ q, v.ownBlock = some q → base ≤ q ∧ ∃ A fr, w.heap[q]? = some (.cells A e fr) := fun q hq => by
  refine ⟨(h.lt q hq).1, ?_⟩
  obtain ⟨_, ⟨rfl, rfl⟩ | ⟨g, cap, cur, rfl, _, h3, _⟩⟩ := h
  · cases hq
  · cases hq; exact ⟨_, _, h3⟩
/-- a box that is new stays when the other side is called -/
theorem box_stays {w3 w4 w5 : World} {g base : Nat} {b : Bool} {l l' : List Od} {o : Obj} (h : SL w3 g base b l) (hb : Below w3.heap.size w3 w4) (hx : w4.heap[w3.heap.size]? = some o) (hk : SK g base b l' w4 w5) : w5.heap[w3.heap.size]? = some o := by
  obtain ⟨v, hg, _⟩ := h.s.row
  have := (Array.getElem?_eq_some_iff.1 hg).1
  exact ks_stay (h.kept hb) (nb_new h (Nat.le_refl _) hb) hk.ks (by omega) hx
set_option maxRecDepth 100000 in
set_option maxHeartbeats 4000000 in
theorem come_any {w : World} {g gb gs base : Nat} {lb ls l1 l2 : List Od} {g1 g2 : Nat} (o : Od) (rests : Bool) (h : BkG w g gb gs base lb ls) (hg1 : g1 = if o.b then gb else gs) (hg2 : g2 = if o.b then gs else gb) (hl1 : l1 = if o.b then lb else ls) (hl2 : l2 = if o.b then ls else lb)
    (ho : OkO o) (hok : okO (oa o) = true) (hl : ∀ x, x ∈ l2 → okO (oa x) = true) (hf : gt o.n l1 = none) (hroom : rests = true → 0 < (meet o o.q l2).left → l1.length < 100) :
    Calls Try.prog 31 #[.pointer (some ⟨g, 0, none⟩), .agg (oa o), .bool rests] w fun e w' => ∃ vt vg : Value, e = .returned (.agg #[vt, vg, .int .i64 (meet o o.q l2).filled, .int .i64 (lft rests (meet o o.q l2).left)]) ∧
      TwX w' g1 g2 base o.b (rst rests o (meet o o.q l2).left l1) (meet o o.q l2).rest ∧ w'.heap[g]? = some (.cells #[.pointer (some ⟨gb, 0, none⟩), .pointer (some ⟨gs, 0, none⟩)] 56 (0, 0)) ∧
      w'.ownsRow w.heap.size 46 4 vt (meet o o.q l2).tr.length (flat (fun i => ta (trs (meet o o.q l2).tr i)) (meet o o.q l2).tr.length) ∧ w'.ownsRow w.heap.size 27 1 vg (meet o o.q l2).gone.length ((meet o o.q l2).gone.map (Value.int .u64)) ∧ Below base w w' ∧ Kb w.heap.size g1 g2 o.b w w' := by
  have hbg := h.bg
  have hgl := (Array.getElem?_eq_some_iff.1 h.row).1
  have hb2 := below_alloc (below_new w (Obj.cells (oa o) 30)) (Obj.cells pl0 41)
  have hbx := heap_up (o := Obj.cells pl0 41) (heap_alloc_new w (Obj.cells (oa o) 30))
  have hpx : ((w.alloc (Obj.cells (oa o) 30)).alloc (Obj.cells pl0 41)).heap[w.heap.size + 1]? = some (.cells pl0 41 (0, 0)) := by
    have := heap_alloc_new (w.alloc (Obj.cells (oa o) 30)) (Obj.cells pl0 41)
    simpa using this
  have cs := bsides_any o.b (h.kept hb2)
  rw [← hg1, ← hg2] at cs
  have hx := h.two.x o.b
  rw [← hg1, ← hg2, ← hl1, ← hl2] at hx
  have HX := Lib.hid hx
  have HROW := Lib.hid h.row
  have o2 : (oa o)[2]? = some (.bool o.b) := rfl
  have HOQ := Lib.hid (okO_q hok)
  have HPS := Lib.hid (show pl0.size = 4 from rfl)
  have HPE := Lib.hid (show pl0 = #[.slice none 0 0, .slice none 0 0, .int .i64 0, .int .i64 0] from rfl)
  have hco := cellF hbx
  have HOK := Lib.hid hok
  clear h hx hg1 hg2 hl1 hl2 hok
  go_enter Try.func31, Try.ntmps31
  go_wp2_with ((with_reducible refine at_alloc 41 ?_); refine wpList_alloc_named rfl 41 rfl pl0 (by kernel_rfl) ?_)
  (try simp only [Act.put, World.size_alloc, List.getElem_toArray, List.getElem_cons_zero, List.getElem_cons_succ, List.setIfInBounds_toArray, List.set_cons_zero, List.set_cons_succ])
  go_step3
  go_wp2_with ((go_at_call 28; (with_reducible refine (cs).mono ?_); rintro e w1 ⟨rfl, hb1⟩))
  go_step3
  have hlow : base ≤ w.heap.size := by omega
  have hb21 := below_then hb2 hb1
  have HL0 := Lib.hid (show Lst w w1 g #[.pointer (some ⟨gb, 0, none⟩), .pointer (some ⟨gs, 0, none⟩)] g1 g2 base w.heap.size (w.heap.size + 1) o l1 l2 l2 o.q 0 [] [] (.slice none 0 0) (.slice none 0 0) from
    ⟨⟨Ytmjfbilhalkegaa.kept hb21 HROW.out, HX.out.kept hb21, Ytmjfbilhalkegaa.kept hb1 hbx, by rw [← HPE.out]; exact Ytmjfbilhalkegaa.kept hb1 hpx, nb_new HX.out.s1 (Nat.le_refl _) hb21, nb_new HX.out.s2 (Nat.le_refl _) hb21, World.ownsRow_nil _ _ _ _, World.ownsRow_nil _ _ _ _, hb21.mono hlow, kb_below HX.out hb21⟩, hl, by have := HOQ.out; omega, by omega, by have := HX.out.s2.s.hk; simp; split <;> omega, by unfold acc; simp⟩)
  have HHL := Lib.hid hl
  have HHF := Lib.hid hf
  have HHR := Lib.hid hroom
  have HHO := Lib.hid ho
  clear hl hf hroom ho hbx hpx hb1 hb2 hb21 hco o2 cs
  go_wp2_with fail
  go_loopg [9] (2 * l2.length + 1) (fun gh _ wr => ∃ (l : List Od) (left fl : Int) (tr : List Tr) (gn : List Int) (vt vg : Value), gh = 2 * l.length + (if 0 < left then 1 else 0) ∧ Lst w wr g #[.pointer (some ⟨gb, 0, none⟩), .pointer (some ⟨gs, 0, none⟩)] g1 g2 base w.heap.size (w.heap.size + 1) o l1 l2 l left fl tr gn vt vg)
  case atStart => exact ⟨l2, o.q, 0, [], [], _, _, by rw [if_pos (by have := HOQ.out; omega)], HL0.out⟩
  case round =>
    obtain ⟨l, left, fl, tr, gn, vt, vg, rfl, hL⟩ := hrel
    have HL := Lib.hid hL
    clear HL0 hL
    have cbo := cellF HL.out.c.bx
    have hf4 : (oa { o with q := left })[4]? = some (.int .i64 left) := rfl
    by_cases h0 : 0 < left
    · cases l with
      | nil =>
        have cbn := best_nil HL.out.c.two.s2
        rw [oa0] at cbn
        have HZ := Lib.hid zo_size
        have HZA := Lib.hid zo_all
        have HME := Lib.hid (show meet o o.q l2 = ⟨[], left, fl, tr, gn⟩ from by rw [HL.out.eq]; exact acc_end)
        have HLC := Lib.hid HL.out.c
        go_upto_region 13 with (first | (go_at_call 40; (with_reducible refine (cbn).mono ?_); rintro e w3 ⟨rfl, hb3⟩) | ((with_reducible refine at_alloc 30 ?_); refine wpList_alloc_named rfl 30 rfl (zo) (by kernel_rfl) ?_) | ((with_reducible refine at_store 30 ?_); refine wpList_store_new rfl 30 _ _ rfl zo _ _ _ rfl (by simp) rfl (by rw [HZ.out]; kernel_rfl) rfl HZA.out ?_))
        have HF := Lib.hid (HLC.out.kept (below_alloc hb3 (Obj.cells zo 30)) (by have := HLC.out.be.size; omega))
        have HLF := Lib.hid HL.out.lf
        clear cbn hb3 cbo HL HLC hf4
        obtain ⟨at8, ct8, rfl⟩ := own_formB HF.out.rt
        obtain ⟨ag8, cg8, rfl⟩ := own_formB HF.out.rg
        have cbf := cellF HF.out.bx
        have hf4 : (oa { o with q := left })[4]? = some (.int .i64 left) := rfl
        have HP4 := Lib.hid (fun y : Int => show (#[.slice at8 tr.length ct8, .slice ag8 gn.length cg8, .int .i64 fl, .int .i64 y] : Array Value).size = 4 from rfl)
        have HPX := Lib.hid (fun y : Int => extract_all (HP4.out y))
        have HBO := Lib.hid (show (oa { o with q := left }).size = 5 from rfl)
        have HBX := Lib.hid (extract_all HBO.out)
        cases rests with
        | false =>
          have hp8 := HF.out.px
          have hbk8 := HF.out.bk
          have hrt8 := HF.out.rt
          have hrg8 := HF.out.rg
          have hbe8 := HF.out.be
          have hfr8 := HF.out.fr
          generalize hPA : (#[.slice at8 tr.length ct8, .slice ag8 gn.length cg8, .int .i64 fl, .int .i64 0] : Array Value) = PA at *
          have HPA := Lib.hid hPA
          clear hPA
          go_wp2_with (first | ((with_reducible refine at_load 41 ?_); refine wpList_load_part rfl 41 _ rfl (w.heap.size + 1) (0) rfl _ (PA) _ _ 4 (hp8) Try.underlying41 rfl (by kernel_rfl) (by rw [← HPA.out, HP4.out]; omega) (PA) (by rw [← HPA.out]; exact HPX.out 0) ?_) | ((with_reducible refine at_store 41 ?_); refine wpList_store_over rfl 41 _ _ rfl (w.heap.size + 1) (PA) rfl rfl _ _ (hp8) (by rw [← HPA.out, HP4.out]; kernel_rfl) (rfl) (by rw [← HPA.out]; exact pl_all) ?_; intro w8 hg8 hs8 ho8 hb8))
          rw [← HPA.out] at hg8 hp8
          (try rw [Exit.noGoto_ret])
          have hk8 := off_kt hp8 (by decide) (by decide) ho8
          refine bodyPost_ret (results_cellB rfl _ _ _ _ _ _ rfl hg8 Try.underlying41 rfl (by kernel_rfl)) rfl ?_
          rw [HME.out]
          rw [lft_no (fun h => Bool.noConfusion h.1), rst_no (fun h => Bool.noConfusion h.1)]
          exact ⟨_, _, rfl, HF.out.two.kt hk8, off_ty hp8 ho8 hbk8 (by decide), own_sameT hrt8 (fun q A _ hq => off_ty hp8 ho8 hq (by decide)), own_sameT hrg8 (fun q A _ hq => off_ty hp8 ho8 hq (by decide)), hbe8.trans (hb8 _ (by omega)), hfr8.trans (kb_rows HF.out.two (fun q e => by
                                                   obtain ⟨v1, e1, _⟩ := HF.out.two.s1.s.row
                                                   rw [e1] at e; cases e
                                                   exact off_ty hp8 ho8 e1 (by decide)) (fun q e => by
                                                   obtain ⟨v1, e1, _⟩ := HF.out.two.s2.s.row
                                                   rw [e1] at e; cases e
                                                   exact off_ty hp8 ho8 e1 (by decide)) (fun q e hq h9 => (ho8 _ (by omega)).trans h9))⟩
        | true =>
          have ho' : OkO { o with q := left } := ⟨HHO.out.n, HHO.out.a, HHO.out.p, by have := HLF.out; show F64 left; unfold F64; omega⟩
          have ca := add_ok HF.out.two.s1 ho' (okO_left HOK.out (by omega) HLF.out.2) rfl HHF.out (HHR.out rfl (by rw [HME.out]; exact h0))
          have hbo := HF.out.bx
          have CA := Lib.hid ca
          clear ca ho'
          generalize hOM : oa { o with q := left } = OM at *
          have HOM := Lib.hid hOM
          clear hOM
          go_wp2_with (first | ((with_reducible refine at_load 30 ?_); refine wpList_load_part rfl 30 _ rfl (w.heap.size) (0) rfl _ (OM) _ _ 5 (hbo) Try.underlying30 rfl (by kernel_rfl) (by rw [HBO.out]; omega) (OM) (HBX.out) ?_) | (go_at_call 43; (with_reducible refine (CA.out).mono ?_); rintro e w7 ⟨rfl, hsk⟩; have HC7 := Lib.hid (HF.out.side1 hsk); have cb7 := cellF (show w7.heap[w.heap.size]? = some (.cells OM 30 (0, 0)) from by rw [← HOM.out]; exact HC7.out.bx); have cp7 := cellF HC7.out.px; have fp7 := (cells_of HC7.out.px).2.1; have hp8 : (w7.setCell ⟨w.heap.size + 1, 3, none⟩ (.int .i64 left)).heap[w.heap.size + 1]? = some (.cells #[.slice at8 tr.length ct8, .slice ag8 gn.length cg8, .int .i64 fl, .int .i64 left] 41 (0, 0)) := heap_set (i := 3) HC7.out.px; clear hsk) | ((with_reducible refine at_load 41 ?_); refine wpList_load_part rfl 41 _ rfl (w.heap.size + 1) (0) rfl _ (#[.slice at8 tr.length ct8, .slice ag8 gn.length cg8, .int .i64 fl, .int .i64 left]) _ _ 4 (hp8) Try.underlying41 rfl (by kernel_rfl) (by rw [HP4.out]; omega) (#[.slice at8 tr.length ct8, .slice ag8 gn.length cg8, .int .i64 fl, .int .i64 left]) (HPX.out left) ?_) | ((with_reducible refine at_store 41 ?_); refine wpList_store_over rfl 41 _ _ rfl (w.heap.size + 1) (#[.slice at8 tr.length ct8, .slice ag8 gn.length cg8, .int .i64 fl, .int .i64 left]) rfl rfl _ _ (hp8) (by rw [HP4.out]; kernel_rfl) (rfl) (pl_all) ?_; intro w8 hg8 hs8 ho8 hb8))
          (try rw [Exit.noGoto_ret])
          have hos9 : ∀ i, i ≠ w.heap.size + 1 → (w7.setCell ⟨w.heap.size + 1, 3, none⟩ (.int .i64 left)).heap[i]? = w7.heap[i]? := fun i hi => heap_setCell_other w7 ⟨w.heap.size + 1, 3, none⟩ i _ hi
          have hk7 := off_kt HC7.out.px (by decide) (by decide) hos9
          have hk8 := off_kt hp8 (by decide) (by decide) ho8
          refine bodyPost_ret (results_cellB rfl _ _ _ _ _ _ rfl hg8 Try.underlying41 rfl (by kernel_rfl)) rfl ?_
          rw [HME.out, lft_yes h0, rst_yes h0]
          have hT := HC7.out.two
          have hbk8 := off_ty HC7.out.px hos9 HC7.out.bk (by decide)
          have hrt8 := own_sameT HC7.out.rt (fun q A _ hq => off_ty HC7.out.px hos9 hq (by decide))
          have hrg8 := own_sameT HC7.out.rg (fun q A _ hq => off_ty HC7.out.px hos9 hq (by decide))
          exact ⟨_, _, rfl, (hT.kt hk7).kt hk8, off_ty hp8 ho8 hbk8 (by decide), own_sameT hrt8 (fun q A _ hq => off_ty hp8 ho8 hq (by decide)), own_sameT hrg8 (fun q A _ hq => off_ty hp8 ho8 hq (by decide)), (below_set HC7.out.be (by omega)).trans (hb8 _ (by omega)), (HC7.out.fr.trans (kb_rows hT (fun q e => by
            obtain ⟨v1, e1, _⟩ := hT.s1.s.row
            rw [e1] at e; cases e
            exact off_ty HC7.out.px hos9 e1 (by decide)) (fun q e => by
            obtain ⟨v1, e1, _⟩ := hT.s2.s.row
            rw [e1] at e; cases e
            exact off_ty HC7.out.px hos9 e1 (by decide)) (fun q e hq h9 => (hos9 _ (by omega)).trans h9))).trans (kb_rows (hT.kt hk7) (fun q e => by
            obtain ⟨v1, e1, _⟩ := (hT.kt hk7).s1.s.row
            rw [e1] at e; cases e
            exact off_ty hp8 ho8 e1 (by decide)) (fun q e => by
            obtain ⟨v1, e1, _⟩ := (hT.kt hk7).s2.s.row
            rw [e1] at e; cases e
            exact off_ty hp8 ho8 e1 (by decide)) (fun q e hq h9 => (ho8 _ (by omega)).trans h9))⟩
      | cons x r =>
        have cbn := best_cons HL.out.c.two.s2
        have HZ := Lib.hid zo_size
        have HXA := Lib.hid (show (oa x).all (·.oneCell') = true from (oa_ord (HL.out.c.two.s2.ok x (by simp))).all)
        have hx0 : (oa x)[0]? = some (.int .u64 x.n) := rfl
        have hx1 : (oa x)[1]? = some (.int .u32 x.a) := rfl
        have hx3 : (oa x)[3]? = some (.int .i64 x.p) := rfl
        have hx4 : (oa x)[4]? = some (.int .i64 x.q) := rfl
        have ho1 : (oa { o with q := left })[1]? = some (.int .u32 o.a) := rfl
        have HBO := Lib.hid (show (oa { o with q := left }).size = 5 from rfl)
        have HBX := Lib.hid (extract_all HBO.out)
        have HOE := Lib.hid (show crs { o with q := left } x.p = crs o x.p from rfl)
        have HLC := Lib.hid HL.out.c
        obtain ⟨at8, ct8, rfl⟩ := own_formB HL.out.c.rt
        obtain ⟨ag8, cg8, rfl⟩ := own_formB HL.out.c.rg
        by_cases hc : crs o x.p = true
        · by_cases ha : x.a = o.a
          · have hgt : gt x.n (x :: r) = some x := by unfold gt; rw [if_pos rfl]
            have hde : del x.n (x :: r) = r := by unfold del; rw [if_pos rfl]
            rw [hc] at HOE
            go_wp2_with (first | (go_at_call 40; (with_reducible refine (cbn).mono ?_); rintro e w3 ⟨rfl, hb3⟩) | ((with_reducible refine at_alloc 30 ?_); refine wpList_alloc_named rfl 30 rfl (zo) (by kernel_rfl) ?_) | ((with_reducible refine at_store 30 ?_); refine wpList_store_new rfl 30 _ _ rfl (oa x) _ _ _ rfl (by simp) rfl (by kernel_rfl) rfl HXA.out ?_; have hx9 := heap_alloc_new w3 (Obj.cells (oa x) 30); have HC4 := Lib.hid (HLC.out.kept (below_alloc hb3 (Obj.cells (oa x) 30)) (by have := HLC.out.be.size; omega)); have cx9 := cellF hx9; have cb4 := cellF HC4.out.bx; have hbx4 := HC4.out.bx; have cc := crs_any { o with q := left } x.p (w3.alloc (Obj.cells (oa x) 30)); rw [HOE.out] at cc) | ((with_reducible refine at_load 30 ?_); refine wpList_load_part rfl 30 _ rfl (w.heap.size) (0) rfl _ (oa { o with q := left }) _ _ 5 (hbx4) Try.underlying30 rfl (by kernel_rfl) (by rw [HBO.out]; omega) (oa { o with q := left }) (HBX.out) ?_) | (go_at_call 41; (with_reducible refine (cc).mono ?_); rintro e w4 ⟨rfl, hb4⟩; have hx9' := Ytmjfbilhalkegaa.kept hb4 hx9; have cx9' := cellF hx9'; have HC5 := Lib.hid (HC4.out.kept hb4 (by have := HC4.out.be.size; omega)); have cb5 := cellF HC5.out.bx) | (go_at_call 33; (with_reducible refine ((drop_in x.n HC5.out.two.s2 hgt)).mono ?_); rintro e w5 ⟨rfl, hsk⟩; rw [hde] at hsk; have hx5 := box_stays (HLC.out.kept hb3 (by have := HLC.out.be.size; omega)).two.s2 (below_then (below_new w3 (Obj.cells (oa x) 30)) hb4) hx9' hsk; have cx5 := cellF hx5; have HC6 := Lib.hid (HC5.out.side hsk); have cp6 := cellF HC6.out.px; have HC7 := Lib.hid (HC6.out.kept (below_new w5 (Obj.cells #[.int .u64 x.n] 27)) (by have := HC6.out.be.size; omega)); have cp7 := cellF HC7.out.px) | ((with_reducible refine at_append31 39 ?_); refine wpList_append_row1 (c := 1) (X := #[.int .u64 x.n]) rfl _ _ rfl Try.underlying39 info_u64 (by omega) rfl (u1_all x.n) w.heap.size _ gn.length _ rfl HC6.out.rg rfl (by have := HL.out.ln; omega) (by have := HC6.out.be.size; omega) ?_; intro v8 w8 ho8 hg8 hq8; obtain ⟨av8, cv8, rfl⟩ := own_formB ho8; have HC8 := Lib.hid (HC7.out.grown hg8 (own_at HC7.out.rg) (.inr rfl) hlow); have cp8 := cellF HC8.out.1.px; have fp8 := (cells_of HC8.out.1.px).2.1))
            have HH := Lib.hid (Cpre.ans (i := 1) (vt' := .slice at8 tr.length ct8) (vg' := .slice av8 (gn.length + 1) cv8) (fl' := fl) (tr' := tr) (gn' := gn ++ [x.n]) (x := .slice av8 (gn.length + 1) cv8) HC8.out.1 (by omega) (by omega) rfl (HC8.out.2.1 (by decide)) (by
              have := ho8
              simpa using this))
            have HLN := Lib.hid HL.out.ln
            have HEQ := Lib.hid (show meet o o.q l2 = acc fl tr (gn ++ [x.n]) (meet o left r) from by rw [HL.out.eq, acc_own h0 hc ha])
            have HOKL := Lib.hid (fun y (hy : y ∈ r) => HL.out.ok y (by simp [hy]))
            have HLF := Lib.hid HL.out.lf
            have HSM := Lib.hid HL.out.sm
            clear HL
            go_roundg (2 * r.length + (if 0 < left then 1 else 0))
            case measure => split <;> omega
            case rel => exact ⟨r, left, fl, tr, gn ++ [x.n], _, _, rfl, ⟨HH.out, HOKL.out, HLF.out, HSM.out, by have := HLN.out; simp at this ⊢; omega, HEQ.out⟩⟩
          · have hxq := okO_q (HL.out.ok x (by simp))
            obtain ⟨nn, l9, e1, n1, n2, n3, hmem, hacc, hln, hl9, hme, hcf⟩ := tr_step (fl := fl) (tr := tr) (gn := gn) (r := r) h0 hc ha hxq.1
            have hleft := HL.out.lf
            have hsum := HL.out.sm
            have hoq := HOQ.out
            have wl : IntKind.i64.wrap (left - nn) = left - nn := by rw [IntKind.wrap_i64]; omega
            have wf : IntKind.i64.wrap (fl + nn) = fl + nn := by rw [IntKind.wrap_i64]; omega
            have HLN := Lib.hid HL.out.ln
            have HEQ := Lib.hid (HL.out.eq.trans hacc)
            have HOKL := Lib.hid (show ∀ y, y ∈ l9 → okO (oa y) = true from fun y hy => by
              rcases hmem y hy with h1 | ⟨rfl, h1⟩
              · exact HL.out.ok y (by simp [h1])
              · exact okO_left (HL.out.ok x (by simp)) (by omega) (by have := hxq.2; omega))
            have HCF := Lib.hid hcf
            have HLN9 := Lib.hid hln
            have HL9 := Lib.hid hl9
            have HME9 := Lib.hid hme
            rw [hc] at HOE
            clear HL hcf hmem hacc hln hl9 hme
            go_upto_region 12 with (first | (go_at_call 40; (with_reducible refine (cbn).mono ?_); rintro e w3 ⟨rfl, hb3⟩) | ((with_reducible refine at_alloc 30 ?_); refine wpList_alloc_named rfl 30 rfl (zo) (by kernel_rfl) ?_) | ((with_reducible refine at_store 30 ?_); refine wpList_store_new rfl 30 _ _ rfl (oa x) _ _ _ rfl (by simp) rfl (by kernel_rfl) rfl HXA.out ?_; have hx9 := heap_alloc_new w3 (Obj.cells (oa x) 30); have HC4 := Lib.hid (HLC.out.kept (below_alloc hb3 (Obj.cells (oa x) 30)) (by have := HLC.out.be.size; omega)); have cx9 := cellF hx9; have cb4 := cellF HC4.out.bx; have hbx4 := HC4.out.bx; have cc := crs_any { o with q := left } x.p (w3.alloc (Obj.cells (oa x) 30)); rw [HOE.out] at cc) | ((with_reducible refine at_load 30 ?_); refine wpList_load_part rfl 30 _ rfl (w.heap.size) (0) rfl _ (oa { o with q := left }) _ _ 5 (hbx4) Try.underlying30 rfl (by kernel_rfl) (by rw [HBO.out]; omega) (oa { o with q := left }) (HBX.out) ?_) | (go_at_call 41; (with_reducible refine (cc).mono ?_); rintro e w4 ⟨rfl, hb4⟩; have hx9' := Ytmjfbilhalkegaa.kept hb4 hx9; have cx9' := cellF hx9'; have HC5 := Lib.hid (HC4.out.kept hb4 (by have := HC4.out.be.size; omega)); have cb5 := cellF HC5.out.bx) | (go_at_call 42; (with_reducible refine ((HCF.out _ _ _ _ HC5.out.two.s2)).mono ?_); rintro e w5 ⟨⟨v5, rfl⟩, hsk⟩; have hx5 := box_stays (HLC.out.kept hb3 (by have := HLC.out.be.size; omega)).two.s2 (below_then (below_new w3 (Obj.cells (oa x) 30)) hb4) hx9' hsk; have cx5 := cellF hx5; have HC6 := Lib.hid (HC5.out.side hsk); have cp6 := cellF HC6.out.px; have cb6 := cellF HC6.out.bx; have fp6 := (cells_of HC6.out.px).2.1; have fb6 := (cells_of HC6.out.bx).2.1))
            have hsz : w.heap.size + 1 < w3.heap.size := by have := (Array.getElem?_eq_some_iff.1 HLC.out.px).1; have := hb3.size; omega
            have HC7 := Lib.hid (HC6.out.left (left - nn) (by omega) (Nat.le_refl _))
            have HC8 := Lib.hid (Cpre.ans (i := 2) (vt' := .slice at8 tr.length ct8) (vg' := .slice ag8 gn.length cg8) (fl' := fl + nn) (x := .int .i64 (fl + nn)) HC7.out.pre (by omega) (by omega) rfl HC7.out.rt HC7.out.rg)
            have hx8 : ((w5.setCell ⟨w.heap.size, 4, none⟩ (.int .i64 (left - nn))).setCell ⟨w.heap.size + 1, 2, none⟩ (.int .i64 (fl + nn))).heap[w3.heap.size]? = some (.cells (oa x) 30 (0, 0)) := heap_set_other (heap_set_other hx5 (by omega)) (by omega)
            generalize hW : ((w5.setCell ⟨w.heap.size, 4, none⟩ (.int .i64 (left - nn))).setCell ⟨w.heap.size + 1, 2, none⟩ (.int .i64 (fl + nn))) = w6 at HC8 hx8 ⊢
            clear hW HC7 HC6 cp6 cb6 fp6 fb6 cx5 hx5 hsk HC5 cb5 hx9' cx9' hb4 cc hbx4 cb4 HC4 hx9 cx9 hb3
            have cp8 := cellF HC8.out.px
            have cx8 := cellF hx8
            have HT := Lib.hid (show (#[.int .i64 x.p, .int .i64 nn, .int .u64 x.n, .int .u32 x.a] : Array Value) = ta ⟨x.p, nn, x.n, x.a⟩ from rfl)
            have HC8k := Lib.hid (HC8.out.kept (below_new w6 (Obj.cells (ta ⟨x.p, nn, x.n, x.a⟩) 46)) (by have := HC8.out.be.size; omega))
            have HLNt := Lib.hid (show tr.length ≤ 100000000 from by have := HLN.out; omega)
            go_wp2_with (first | ((with_reducible refine at_build 46 ?_); refine wpList_build_named rfl 46 _ rfl (ta ⟨x.p, nn, x.n, x.a⟩) (by kernel_rfl) ?_) | ((with_reducible refine at_slice1 38 ?_); obtain ⟨ip, zp, ip1, ip2, ip3, ip4, ip5⟩ := info_tr; refine wpList_slice1c rfl 38 46 _ rfl (ta ⟨x.p, nn, x.n, x.a⟩) 4 rfl rfl ip zp Try.underlying38 ip1 ip2 ip3 ip5 (by omega) (by omega) ?_; clear ip1 ip2 ip3 ip4 ip5) | ((with_reducible refine at_append31 38 ?_); refine wpList_append_row1 (c := 4) (X := ta ⟨x.p, nn, x.n, x.a⟩) rfl _ _ rfl Try.underlying38 info_tr (by omega) rfl (ta_all _) w.heap.size _ tr.length _ rfl HC8.out.rt rfl HLNt.out (by have := HC8.out.be.size; omega) ?_; intro v8 w8 ho8 hg8 hq8; obtain ⟨av8, cv8, rfl⟩ := own_formB ho8; have HC9 := Lib.hid (HC8k.out.grown hg8 (own_at HC8k.out.rt) (.inl rfl) hlow); have cp9 := cellF HC9.out.1.px; have fp9 := (cells_of HC9.out.1.px).2.1))
            have HH := Lib.hid (Cpre.ans (i := 0) (vt' := .slice av8 (tr.length + 1) cv8) (vg' := .slice ag8 gn.length cg8) (fl' := fl + nn) (tr' := tr ++ [⟨x.p, nn, x.n, x.a⟩]) (gn' := gn) (x := .slice av8 (tr.length + 1) cv8) HC9.out.1 (by omega) (by omega) rfl (by
              have := ho8
              rw [trs_app, List.length_append]
              exact this) (HC9.out.2.2 (by decide)))
            go_roundg (2 * l9.length + (if 0 < left - nn then 1 else 0))
            case measure => exact HME9.out
            case rel => exact ⟨l9, left - nn, fl + nn, tr ++ [⟨x.p, nn, x.n, x.a⟩], gn, _, _, rfl, ⟨HH.out, HOKL.out, by omega, by omega, by have h1 := HLN.out; have h2 := HLN9.out; have h3 := HL9.out; rw [if_pos h0] at h1; simp only [List.length_append, List.length_cons, List.length_nil] at h1 ⊢; refine ⟨?_, ?_⟩ <;> (try split at *) <;> omega, HEQ.out⟩⟩
        · rw [Bool.not_eq_true] at hc
          rw [hc] at HOE
          have HME := Lib.hid (show meet o o.q l2 = ⟨x :: r, left, fl, tr, gn⟩ from by rw [HL.out.eq, meet_stop hc]; exact acc_end)
          go_upto_region 13 with (first | (go_at_call 40; (with_reducible refine (cbn).mono ?_); rintro e w3 ⟨rfl, hb3⟩) | ((with_reducible refine at_alloc 30 ?_); refine wpList_alloc_named rfl 30 rfl (zo) (by kernel_rfl) ?_) | ((with_reducible refine at_store 30 ?_); refine wpList_store_new rfl 30 _ _ rfl (oa x) _ _ _ rfl (by simp) rfl (by kernel_rfl) rfl HXA.out ?_; have hx9 := heap_alloc_new w3 (Obj.cells (oa x) 30); have HC4 := Lib.hid (HLC.out.kept (below_alloc hb3 (Obj.cells (oa x) 30)) (by have := HLC.out.be.size; omega)); have cx9 := cellF hx9; have cb4 := cellF HC4.out.bx; have hbx4 := HC4.out.bx; have cc := crs_any { o with q := left } x.p (w3.alloc (Obj.cells (oa x) 30)); rw [HOE.out] at cc) | ((with_reducible refine at_load 30 ?_); refine wpList_load_part rfl 30 _ rfl (w.heap.size) (0) rfl _ (oa { o with q := left }) _ _ 5 (hbx4) Try.underlying30 rfl (by kernel_rfl) (by rw [HBO.out]; omega) (oa { o with q := left }) (HBX.out) ?_) | (go_at_call 41; (with_reducible refine (cc).mono ?_); rintro e w4 ⟨rfl, hb4⟩; have hx9' := Ytmjfbilhalkegaa.kept hb4 hx9; have cx9' := cellF hx9'; have HC5 := Lib.hid (HC4.out.kept hb4 (by have := HC4.out.be.size; omega)); have cb5 := cellF HC5.out.bx)
            )
          have HF := Lib.hid HC5.out
          have HLF := Lib.hid HL.out.lf
          clear cbn hb3 hb4 HL HLC hf4 HC4 HC5 cx9 cb4 hbx4 cc hx9 hx9' cx9' cb5 hx0 hx1 hx3 hx4 ho1 HBO HBX
          have cbf := cellF HF.out.bx
          have hf4 : (oa { o with q := left })[4]? = some (.int .i64 left) := rfl
          have HP4 := Lib.hid (fun y : Int => show (#[.slice at8 tr.length ct8, .slice ag8 gn.length cg8, .int .i64 fl, .int .i64 y] : Array Value).size = 4 from rfl)
          have HPX := Lib.hid (fun y : Int => extract_all (HP4.out y))
          have HBO := Lib.hid (show (oa { o with q := left }).size = 5 from rfl)
          have HBX := Lib.hid (extract_all HBO.out)
          cases rests with
          | false =>
            have hp8 := HF.out.px
            have hbk8 := HF.out.bk
            have hrt8 := HF.out.rt
            have hrg8 := HF.out.rg
            have hbe8 := HF.out.be
            have hfr8 := HF.out.fr
            generalize hPA : (#[.slice at8 tr.length ct8, .slice ag8 gn.length cg8, .int .i64 fl, .int .i64 0] : Array Value) = PA at *
            have HPA := Lib.hid hPA
            clear hPA
            go_wp2_with (first | ((with_reducible refine at_load 41 ?_); refine wpList_load_part rfl 41 _ rfl (w.heap.size + 1) (0) rfl _ (PA) _ _ 4 (hp8) Try.underlying41 rfl (by kernel_rfl) (by rw [← HPA.out, HP4.out]; omega) (PA) (by rw [← HPA.out]; exact HPX.out 0) ?_) | ((with_reducible refine at_store 41 ?_); refine wpList_store_over rfl 41 _ _ rfl (w.heap.size + 1) (PA) rfl rfl _ _ (hp8) (by rw [← HPA.out, HP4.out]; kernel_rfl) (rfl) (by rw [← HPA.out]; exact pl_all) ?_; intro w8 hg8 hs8 ho8 hb8))
            rw [← HPA.out] at hg8 hp8
            (try rw [Exit.noGoto_ret])
            have hk8 := off_kt hp8 (by decide) (by decide) ho8
            refine bodyPost_ret (results_cellB rfl _ _ _ _ _ _ rfl hg8 Try.underlying41 rfl (by kernel_rfl)) rfl ?_
            rw [HME.out]
            rw [lft_no (fun h => Bool.noConfusion h.1), rst_no (fun h => Bool.noConfusion h.1)]
            exact ⟨_, _, rfl, HF.out.two.kt hk8, off_ty hp8 ho8 hbk8 (by decide), own_sameT hrt8 (fun q A _ hq => off_ty hp8 ho8 hq (by decide)), own_sameT hrg8 (fun q A _ hq => off_ty hp8 ho8 hq (by decide)), hbe8.trans (hb8 _ (by omega)), hfr8.trans (kb_rows HF.out.two (fun q e => by
                                                     obtain ⟨v1, e1, _⟩ := HF.out.two.s1.s.row
                                                     rw [e1] at e; cases e
                                                     exact off_ty hp8 ho8 e1 (by decide)) (fun q e => by
                                                     obtain ⟨v1, e1, _⟩ := HF.out.two.s2.s.row
                                                     rw [e1] at e; cases e
                                                     exact off_ty hp8 ho8 e1 (by decide)) (fun q e hq h9 => (ho8 _ (by omega)).trans h9))⟩
          | true =>
            have ho' : OkO { o with q := left } := ⟨HHO.out.n, HHO.out.a, HHO.out.p, by have := HLF.out; show F64 left; unfold F64; omega⟩
            have ca := add_ok HF.out.two.s1 ho' (okO_left HOK.out (by omega) HLF.out.2) rfl HHF.out (HHR.out rfl (by rw [HME.out]; exact h0))
            have hbo := HF.out.bx
            have CA := Lib.hid ca
            clear ca ho'
            generalize hOM : oa { o with q := left } = OM at *
            have HOM := Lib.hid hOM
            clear hOM
            go_wp2_with (first | ((with_reducible refine at_load 30 ?_); refine wpList_load_part rfl 30 _ rfl (w.heap.size) (0) rfl _ (OM) _ _ 5 (hbo) Try.underlying30 rfl (by kernel_rfl) (by rw [HBO.out]; omega) (OM) (HBX.out) ?_) | (go_at_call 43; (with_reducible refine (CA.out).mono ?_); rintro e w7 ⟨rfl, hsk⟩; have HC7 := Lib.hid (HF.out.side1 hsk); have cb7 := cellF (show w7.heap[w.heap.size]? = some (.cells OM 30 (0, 0)) from by rw [← HOM.out]; exact HC7.out.bx); have cp7 := cellF HC7.out.px; have fp7 := (cells_of HC7.out.px).2.1; have hp8 : (w7.setCell ⟨w.heap.size + 1, 3, none⟩ (.int .i64 left)).heap[w.heap.size + 1]? = some (.cells #[.slice at8 tr.length ct8, .slice ag8 gn.length cg8, .int .i64 fl, .int .i64 left] 41 (0, 0)) := heap_set (i := 3) HC7.out.px; clear hsk) | ((with_reducible refine at_load 41 ?_); refine wpList_load_part rfl 41 _ rfl (w.heap.size + 1) (0) rfl _ (#[.slice at8 tr.length ct8, .slice ag8 gn.length cg8, .int .i64 fl, .int .i64 left]) _ _ 4 (hp8) Try.underlying41 rfl (by kernel_rfl) (by rw [HP4.out]; omega) (#[.slice at8 tr.length ct8, .slice ag8 gn.length cg8, .int .i64 fl, .int .i64 left]) (HPX.out left) ?_) | ((with_reducible refine at_store 41 ?_); refine wpList_store_over rfl 41 _ _ rfl (w.heap.size + 1) (#[.slice at8 tr.length ct8, .slice ag8 gn.length cg8, .int .i64 fl, .int .i64 left]) rfl rfl _ _ (hp8) (by rw [HP4.out]; kernel_rfl) (rfl) (pl_all) ?_; intro w8 hg8 hs8 ho8 hb8))
            (try rw [Exit.noGoto_ret])
            have hos9 : ∀ i, i ≠ w.heap.size + 1 → (w7.setCell ⟨w.heap.size + 1, 3, none⟩ (.int .i64 left)).heap[i]? = w7.heap[i]? := fun i hi => heap_setCell_other w7 ⟨w.heap.size + 1, 3, none⟩ i _ hi
            have hk7 := off_kt HC7.out.px (by decide) (by decide) hos9
            have hk8 := off_kt hp8 (by decide) (by decide) ho8
            refine bodyPost_ret (results_cellB rfl _ _ _ _ _ _ rfl hg8 Try.underlying41 rfl (by kernel_rfl)) rfl ?_
            rw [HME.out, lft_yes h0, rst_yes h0]
            have hT := HC7.out.two
            have hbk8 := off_ty HC7.out.px hos9 HC7.out.bk (by decide)
            have hrt8 := own_sameT HC7.out.rt (fun q A _ hq => off_ty HC7.out.px hos9 hq (by decide))
            have hrg8 := own_sameT HC7.out.rg (fun q A _ hq => off_ty HC7.out.px hos9 hq (by decide))
            exact ⟨_, _, rfl, (hT.kt hk7).kt hk8, off_ty hp8 ho8 hbk8 (by decide), own_sameT hrt8 (fun q A _ hq => off_ty hp8 ho8 hq (by decide)), own_sameT hrg8 (fun q A _ hq => off_ty hp8 ho8 hq (by decide)), (below_set HC7.out.be (by omega)).trans (hb8 _ (by omega)), (HC7.out.fr.trans (kb_rows hT (fun q e => by
              obtain ⟨v1, e1, _⟩ := hT.s1.s.row
              rw [e1] at e; cases e
              exact off_ty HC7.out.px hos9 e1 (by decide)) (fun q e => by
              obtain ⟨v1, e1, _⟩ := hT.s2.s.row
              rw [e1] at e; cases e
              exact off_ty HC7.out.px hos9 e1 (by decide)) (fun q e hq h9 => (hos9 _ (by omega)).trans h9))).trans (kb_rows (hT.kt hk7) (fun q e => by
              obtain ⟨v1, e1, _⟩ := (hT.kt hk7).s1.s.row
              rw [e1] at e; cases e
              exact off_ty hp8 ho8 e1 (by decide)) (fun q e => by
              obtain ⟨v1, e1, _⟩ := (hT.kt hk7).s2.s.row
              rw [e1] at e; cases e
              exact off_ty hp8 ho8 e1 (by decide)) (fun q e hq h9 => (ho8 _ (by omega)).trans h9))⟩
    · have HME := Lib.hid (show meet o o.q l2 = ⟨l, left, fl, tr, gn⟩ from by rw [HL.out.eq, meet_done (by omega)]; exact acc_end)
      have HF := Lib.hid HL.out.c
      go_upto_region 13 with fail
      clear cbo HL hf4
      have hl0 := h0
      obtain ⟨at8, ct8, rfl⟩ := own_formB HF.out.rt
      obtain ⟨ag8, cg8, rfl⟩ := own_formB HF.out.rg
      have cbf := cellF HF.out.bx
      have hf4 : (oa { o with q := left })[4]? = some (.int .i64 left) := rfl
      have HP4 := Lib.hid (fun y : Int => show (#[.slice at8 tr.length ct8, .slice ag8 gn.length cg8, .int .i64 fl, .int .i64 y] : Array Value).size = 4 from rfl)
      have HPX := Lib.hid (fun y : Int => extract_all (HP4.out y))
      have HBO := Lib.hid (show (oa { o with q := left }).size = 5 from rfl)
      have HBX := Lib.hid (extract_all HBO.out)
      cases rests with
      | false =>
        have hp8 := HF.out.px
        have hbk8 := HF.out.bk
        have hrt8 := HF.out.rt
        have hrg8 := HF.out.rg
        have hbe8 := HF.out.be
        have hfr8 := HF.out.fr
        generalize hPA : (#[.slice at8 tr.length ct8, .slice ag8 gn.length cg8, .int .i64 fl, .int .i64 0] : Array Value) = PA at *
        have HPA := Lib.hid hPA
        clear hPA
        go_wp2_with (first | ((with_reducible refine at_load 41 ?_); refine wpList_load_part rfl 41 _ rfl (w.heap.size + 1) (0) rfl _ (PA) _ _ 4 (hp8) Try.underlying41 rfl (by kernel_rfl) (by rw [← HPA.out, HP4.out]; omega) (PA) (by rw [← HPA.out]; exact HPX.out 0) ?_) | ((with_reducible refine at_store 41 ?_); refine wpList_store_over rfl 41 _ _ rfl (w.heap.size + 1) (PA) rfl rfl _ _ (hp8) (by rw [← HPA.out, HP4.out]; kernel_rfl) (rfl) (by rw [← HPA.out]; exact pl_all) ?_; intro w8 hg8 hs8 ho8 hb8))
        rw [← HPA.out] at hg8 hp8
        (try rw [Exit.noGoto_ret])
        have hk8 := off_kt hp8 (by decide) (by decide) ho8
        refine bodyPost_ret (results_cellB rfl _ _ _ _ _ _ rfl hg8 Try.underlying41 rfl (by kernel_rfl)) rfl ?_
        rw [HME.out]
        rw [lft_no (fun h => Bool.noConfusion h.1), rst_no (fun h => Bool.noConfusion h.1)]
        exact ⟨_, _, rfl, HF.out.two.kt hk8, off_ty hp8 ho8 hbk8 (by decide), own_sameT hrt8 (fun q A _ hq => off_ty hp8 ho8 hq (by decide)), own_sameT hrg8 (fun q A _ hq => off_ty hp8 ho8 hq (by decide)), hbe8.trans (hb8 _ (by omega)), hfr8.trans (kb_rows HF.out.two (fun q e => by
                                                 obtain ⟨v1, e1, _⟩ := HF.out.two.s1.s.row
                                                 rw [e1] at e; cases e
                                                 exact off_ty hp8 ho8 e1 (by decide)) (fun q e => by
                                                 obtain ⟨v1, e1, _⟩ := HF.out.two.s2.s.row
                                                 rw [e1] at e; cases e
                                                 exact off_ty hp8 ho8 e1 (by decide)) (fun q e hq h9 => (ho8 _ (by omega)).trans h9))⟩
      | true =>
        have hp8 := HF.out.px
        have hbk8 := HF.out.bk
        have hrt8 := HF.out.rt
        have hrg8 := HF.out.rg
        have hbe8 := HF.out.be
        have hfr8 := HF.out.fr
        generalize hPA : (#[.slice at8 tr.length ct8, .slice ag8 gn.length cg8, .int .i64 fl, .int .i64 0] : Array Value) = PA at *
        have HPA := Lib.hid hPA
        clear hPA
        go_wp2_with (first | ((with_reducible refine at_load 41 ?_); refine wpList_load_part rfl 41 _ rfl (w.heap.size + 1) (0) rfl _ (PA) _ _ 4 (hp8) Try.underlying41 rfl (by kernel_rfl) (by rw [← HPA.out, HP4.out]; omega) (PA) (by rw [← HPA.out]; exact HPX.out 0) ?_) | ((with_reducible refine at_store 41 ?_); refine wpList_store_over rfl 41 _ _ rfl (w.heap.size + 1) (PA) rfl rfl _ _ (hp8) (by rw [← HPA.out, HP4.out]; kernel_rfl) (rfl) (by rw [← HPA.out]; exact pl_all) ?_; intro w8 hg8 hs8 ho8 hb8))
        rw [← HPA.out] at hg8 hp8
        (try rw [Exit.noGoto_ret])
        have hk8 := off_kt hp8 (by decide) (by decide) ho8
        refine bodyPost_ret (results_cellB rfl _ _ _ _ _ _ rfl hg8 Try.underlying41 rfl (by kernel_rfl)) rfl ?_
        rw [HME.out]
        rw [lft_no (fun h => by have h2 : 0 < left := h.2; omega), rst_no (fun h => by have h2 : 0 < left := h.2; omega)]
        exact ⟨_, _, rfl, HF.out.two.kt hk8, off_ty hp8 ho8 hbk8 (by decide), own_sameT hrt8 (fun q A _ hq => off_ty hp8 ho8 hq (by decide)), own_sameT hrg8 (fun q A _ hq => off_ty hp8 ho8 hq (by decide)), hbe8.trans (hb8 _ (by omega)), hfr8.trans (kb_rows HF.out.two (fun q e => by
                                                 obtain ⟨v1, e1, _⟩ := HF.out.two.s1.s.row
                                                 rw [e1] at e; cases e
                                                 exact off_ty hp8 ho8 e1 (by decide)) (fun q e => by
                                                 obtain ⟨v1, e1, _⟩ := HF.out.two.s2.s.row
                                                 rw [e1] at e; cases e
                                                 exact off_ty hp8 ho8 e1 (by decide)) (fun q e hq h9 => (ho8 _ (by omega)).trans h9))⟩
end Go.Proofs.Ytmjfbilhalkegaa
