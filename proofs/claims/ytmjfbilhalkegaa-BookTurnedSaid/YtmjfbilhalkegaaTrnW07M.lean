/- BookTurned, walked: it returns true. Condition: the numbers fit their kinds. -/
import Derived.Test.YtmjfbilhalkegaaTrnP07M
import Derived.Test.YtmjfbilhalkegaaMgUncLaw0717
namespace Go.Proofs.Ytmjfbilhalkegaa
set_option linter.unusedVariables false
set_option linter.unusedSimpArgs false
open Go.RowKit Go.Deep

theorem ex_act {T : Array Value} {ds : List Deferred} {p : (Nat → Value) → Prop} {lit : (Nat → Value) → Array Value} (h1 : p (fun i => T.getD i undef)) (h2 : T = lit (fun i => T.getD i undef)) : ∃ u, p u ∧ (⟨T, ds⟩ : Act) = ⟨lit u, ds⟩ :=
  ⟨_, h1, by rw [← h2]⟩
theorem close_round {J I : Nat → Act → World → Prop} {n : Nat} {a : Act} {w : World} (hJ : ∀ k a w, I k a w → J k a w) (k : Nat) (hk : k < n) (h : I k a w) : Handed J n a w := Handed.intro k hk (hJ _ _ _ h)
/-- the rows of a book's orders -/
structure RL (w : World) (a : Option Addr) (lb ls : List Od) : Prop where
  r : RowsT w 30 5 a (lb.length + ls.length) (fun i => oa (od (lb ++ ls) i))
theorem RL.of {w : World} {a : Option Addr} {lb ls : List Od} (h : RowsT w 30 5 a (lb ++ ls).length (fun i => oa (od (lb ++ ls) i))) : RL w a lb ls := ⟨by rw [List.length_append] at h; exact h⟩
theorem ne_ty {w : World} {p q : Nat} {c d : Array Value} {t t2 : TypeId} {fr fr2 : Nat × Nat} (h : w.heap[p]? = some (.cells c t fr)) (h2 : w.heap[q]? = some (.cells d t2 fr2)) (ht : t ≠ t2) : p ≠ q := fun e => by
  subst e
  rw [h] at h2; injection h2 with h2; injection h2 with _ h2
  exact ht h2
theorem rowsT_off {w w' : World} {t t2 : TypeId} {c n q : Nat} {a : Option Addr} {L : Nat → Array Value} {d : Array Value} {fr2 : Nat × Nat} (h : RowsT w t c a n L) (hq : w.heap[q]? = some (.cells d t2 fr2)) (ht : t ≠ t2) (ho : ∀ k, k ≠ q → w'.heap[k]? = w.heap[k]?) : RowsT w' t c a n L := fun i hi => by
  obtain ⟨g9, off, A, fr, e1, e2, e3⟩ := h i hi
  exact ⟨g9, off, A, fr, e1, (ho _ (ne_ty e2 hq ht)).trans e2, e3⟩
/-- a block that is no book's is written -/
theorem Pair.off {w w' : World} {g gb gs base : Nat} {lb ls : List Od} {g2 gb2 gs2 base2 : Nat} {lb2 ls2 : List Od} {q : Nat} {d : Array Value} {t : TypeId} {fr : Nat × Nat} (h : Pair w g gb gs base lb ls g2 gb2 gs2 base2 lb2 ls2) (hq : w.heap[q]? = some (.cells d t fr)) (h1 : t ≠ 77) (h2 : t ≠ 30) (h3 : t ≠ 56) (ho : ∀ k, k ≠ q → w'.heap[k]? = w.heap[k]?) : Pair w' g gb gs base lb ls g2 gb2 gs2 base2 lb2 ls2 := by
  have no : ∀ {g gb gs base : Nat} {lb ls : List Od}, BkG w g gb gs base lb ls → ∀ p, Blk w g gb gs p → p ≠ q := fun hb p hp => by
    obtain ⟨vb, e1, r1⟩ := hb.two.b.s.row
    obtain ⟨vs, e2, r2⟩ := hb.two.s.s.row
    rcases hp with e | e | e | e | e
    · subst e; exact ne_ty hb.row hq (fun e => h3 e.symm)
    · subst e; exact ne_ty e1 hq (fun e => h1 e.symm)
    · subst e; exact ne_ty e2 hq (fun e => h1 e.symm)
    · obtain ⟨v, f1, f2⟩ := not_nb hb.two.b e
      obtain ⟨_, rfl⟩ := side_inj e1 f1
      obtain ⟨A9, fr9, h9⟩ := own_tag r1 p f2
      exact ne_ty h9 hq (fun e => h2 e.symm)
    · obtain ⟨v, f1, f2⟩ := not_nb hb.two.s e
      obtain ⟨_, rfl⟩ := side_inj e2 f1
      obtain ⟨A9, fr9, h9⟩ := own_tag r2 p f2
      exact ne_ty h9 hq (fun e => h2 e.symm)
  obtain ⟨q1, q2⟩ := bkg_hold (w' := w') h.a (fun p o hp e => (ho p (no h.a p hp)).trans e)
  obtain ⟨q3, q4⟩ := bkg_hold (w' := w') h.b (fun p o hp e => (ho p (no h.b p hp)).trans e)
  exact ⟨q1, q3, fun p e1 e2 => h.ap p (q2 p e1) (q4 p e2)⟩
/-- a call as cells -/
def opa (k : Int) (o : Od) (k2 : Int) : Array Value := #[.int .i64 k, .int .u64 o.n, .int .u32 o.a, .bool o.b, .int .i64 o.p, .int .i64 o.q, .int .u8 k2]
theorem op_lit {X : Array Value} (h : IsOp X) : X = opa (N X 0) (opO X) (N X 6) := by
  have hs := h.size
  refine Array.ext_getElem? fun i => ?_
  match i with
  | 0 => exact h.k.1
  | 1 => exact op_ext h 0 (by omega)
  | 2 => exact op_ext h 1 (by omega)
  | 3 => exact op_ext h 2 (by omega)
  | 4 => exact op_ext h 3 (by omega)
  | 5 => exact op_ext h 4 (by omega)
  | 6 => exact h.n.1
  | i + 7 => rw [Array.getElem?_eq_none (by omega), Array.getElem?_eq_none (by rw [show (opa (N X 0) (opO X) (N X 6)).size = 7 from rfl]; omega)]
theorem opa_all (k : Int) (o : Od) (k2 : Int) : (opa k o k2).all (·.oneCell') = true := all_one fun i v hv => by
  have hi : i < 7 := (Array.getElem?_eq_some_iff.1 hv).1
  have : i = 0 ∨ i = 1 ∨ i = 2 ∨ i = 3 ∨ i = 4 ∨ i = 5 ∨ i = 6 := by omega
  rcases this with rfl | rfl | rfl | rfl | rfl | rfl | rfl <;> (cases hv; rfl)
theorem opF_opa (k : Int) (o : Od) (k2 : Int) (lb ls : List Od) : opF (opa k o k2) lb ls = plyF k o k2 lb ls := by
  have e0 : N (opa k o k2) 0 = k := N_of (k := .i64) rfl
  have e6 : N (opa k o k2) 6 = k2 := N_of (k := .u8) rfl
  have e1 : opO (opa k o k2) = o := by
    show ox (oa o) = o
    unfold ox
    rw [oa_N0, oa_N1, oa_B2, oa_N3, oa_N4]
  unfold opF
  rw [e0, e6, e1]
theorem extract_all4 {A : Array Value} (h : A.size = 4) : A.extract 0 (0 + 4) = A := by rw [show 0 + 4 = A.size by rw [h]]; simp
theorem trs_map {l : List Tr} {j : Nat} (h : j < l.length) : trs (l.map tt) j = tt (trs l j) := by
  unfold trs
  rw [List.getD_eq_getElem?_getD, List.getD_eq_getElem?_getD, List.getElem?_map, List.getElem?_eq_getElem h]
  rfl
theorem tr_pr {o : Od} {l : List Od} {t : Tr} (h : TrO o l t) (hg : Good l) : 1 ≤ t.p ∧ t.p ≤ 10000000 := by
  obtain ⟨x, h1, h2, _⟩ := h.ex
  rw [h2]
  have h3 := hg x h1
  unfold okO at h3
  rw [Bool.and_eq_true, Bool.and_eq_true, inB_iff, inB_iff, oa_N3] at h3
  exact h3.1.2
theorem plc_pr {o : Od} {k : Int} {lb ls : List Od} (hi : BiX true lb ls) : ∀ t, t ∈ (plcF o k lb ls).tr → 1 ≤ t.p ∧ t.p ≤ 10000000 := fun t ht => tr_pr (plc_trs hi t ht) (hi.own o.b).inv.gs
theorem meet_tlen {o : Od} : ∀ {l : List Od} {left : Int}, (meet o left l).tr.length ≤ l.length
  | [], left => Nat.le_refl _
  | x :: r, left => by
    unfold meet
    split
    · exact Nat.zero_le _
    · split
      · exact Nat.zero_le _
      · split
        · have := meet_tlen (o := o) (l := r) (left := left); show (meet o left r).tr.length ≤ r.length + 1; omega
        · split
          · show 1 ≤ r.length + 1; omega
          · have := meet_tlen (o := o) (l := r) (left := left - x.q); show (meet o (left - x.q) r).tr.length + 1 ≤ r.length + 1; omega
theorem came_len {r : Bool} {o : Od} {lb ls : List Od} (h1 : lb.length ≤ 100) (h2 : ls.length ≤ 100) : (came r o lb ls).tr.length ≤ 100000 := by
  have := meet_tlen (o := o) (l := oth o.b lb ls) (left := o.q)
  have h3 : (oth o.b lb ls).length ≤ 100 := by unfold oth; split <;> assumption
  show (meet o o.q (oth o.b lb ls)).tr.length ≤ 100000
  omega
theorem plc_len {o : Od} {k : Int} {lb ls : List Od} (hi : BiX true lb ls) : (plcF o k lb ls).tr.length ≤ 100000 := by
  unfold plcF
  split
  · exact came_len hi.inv.nb hi.inv.ns
  · show 0 ≤ 100000; omega
theorem came_ok {r : Bool} {o : Od} {lb ls : List Od} (hg : Good (oth o.b lb ls)) (hk : ∀ x, x ∈ oth o.b lb ls → OkO x) : ∀ t, t ∈ (came r o lb ls).tr → OkT t ∧ 1 ≤ t.p ∧ t.p ≤ 10000000 := fun t ht => by
  have h := meet_tr (o := o) (left := o.q) hg t ht
  exact ⟨h.ok hk, tr_pr h hg⟩
theorem rpl_ok {n p q : Int} {lb ls : List Od} (hi : BiX true lb ls) (hb : ∀ x, x ∈ lb → OkO x) (hs : ∀ x, x ∈ ls → OkO x) : ∀ t, t ∈ (rplF n p q lb ls).tr → OkT t ∧ 1 ≤ t.p ∧ t.p ≤ 10000000 := by
  intro t ht
  unfold rplF at ht
  cases h1 : gt n lb with
  | some o =>
    have hbb := hi.inv.bb o (gt_mem h1)
    rw [h1] at ht
    simp only [] at ht
    split at ht
    · cases ht
    · split at ht
      · cases ht
      · refine came_ok (o := rp o p q) ?_ ?_ t ht
        · unfold oth; rw [show (rp o p q).b = true from hbb]; exact hi.inv.gs
        · unfold oth; rw [show (rp o p q).b = true from hbb]; exact hs
  | none =>
    rw [h1] at ht
    simp only [] at ht
    cases h2 : gt n ls with
    | some o =>
      have hbb := hi.inv.bs o (gt_mem h2)
      rw [h2] at ht
      simp only [] at ht
      split at ht
      · cases ht
      · split at ht
        · cases ht
        · refine came_ok (o := rp o p q) ?_ ?_ t ht
          · unfold oth; rw [show (rp o p q).b = false from hbb]; exact hi.inv.gb
          · unfold oth; rw [show (rp o p q).b = false from hbb]; exact hb
    | none =>
      rw [h2] at ht
      cases ht
theorem rpl_len {n p q : Int} {lb ls : List Od} (hi : BiX true lb ls) : (rplF n p q lb ls).tr.length ≤ 100000 := by
  have d : ∀ (l : List Od), (del n l).length ≤ l.length := fun l => del_sub.length_le
  have h1 := d lb
  have h2 := d ls
  have h3 := hi.inv.nb
  have h4 := hi.inv.ns
  unfold rplF
  cases gt n lb with
  | some o =>
    simp only []
    split
    · show 0 ≤ 100000; omega
    · split
      · show 0 ≤ 100000; omega
      · exact came_len (by omega) (by omega)
  | none =>
    simp only []
    cases gt n ls with
    | some o =>
      simp only []
      split
      · show 0 ≤ 100000; omega
      · split
        · show 0 ≤ 100000; omega
        · exact came_len (by omega) (by omega)
    | none => show 0 ≤ 100000; omega
/-- a loop that only reads, or makes memory -/
def TREL2 (n : Nat) (w : World) (gh : Nat) (vi : Value) (wr : World) : Prop := ∃ i : Nat, i ≤ n ∧ gh = n - i ∧ vi = .int .i64 i ∧ Below w.heap.size w wr
/-- what the rounds of BookTurned keep -/
def TnR (n : Nat) (w : World) (g gb gs b1 g2 gb2 gs2 b2 : Nat) (gh : Nat) (v : Value) (wx : World) : Prop := ∃ (i : Nat) (lb ls : List Od), i ≤ n ∧ gh = n - i ∧ v = .int .i64 i ∧ Pair wx g gb gs b1 lb ls g2 gb2 gs2 b2 (tl ls) (tl lb) ∧ BiX true lb ls ∧ BiX true (tl ls) (tl lb) ∧ Below w.heap.size w wx
set_option maxRecDepth 100000 in
set_option maxHeartbeats 8000000 in
theorem turned07_walk (a : Option Addr) (n cap : Nat) (L : Nat → Array Value) (w : World) (hL : ∀ i, IsOp (L i)) (hR : RowsC w 7 a n L) (hn : n ≤ cap) (hc : cap ≤ 9223372036854775807) :
    Calls Try.prog 5 #[.slice a n cap] w fun e w' => e = .returned (.bool true) ∧ Below w.heap.size w w' := by
  have hpe : ∀ (w : World) (g : Nat), (binOp .eql 23 (.pointer (some ⟨g, 0, none⟩)) (.pointer none)).run Try.prog w = .ok (.bool false) w := fun _ _ => by kernel_rfl
  have hpn : ∀ (w : World) (g : Nat), (binOp .neq 23 (.pointer (some ⟨g, 0, none⟩)) (.pointer none)).run Try.prog w = .ok (.bool true) w := fun _ _ => by kernel_rfl
  have HL := Lib.hid hL
  have HR := Lib.hid hR
  clear hL hR
  by_cases hlen : 100 < n
  · have hlen2 : (100 : Int) < (n : Int) := by omega
    go_enter Try.func5, Try.ntmps5
    go_wp2_with (first | (go_at_call 9; (with_reducible refine (bnew_any w).mono ?_); rintro e w1 ⟨g, gb, gs, rfl, hB, hb⟩; have HB := Lib.hid hb; clear hB hb) | (go_at_call 9; (with_reducible refine (bnew_any w1).mono ?_); rintro e w2 ⟨g2, gb2, gs2, rfl, hB, hb⟩; have HB2 := Lib.hid hb; clear hB hb) | (go_at_call 10; (with_reducible refine (known07 _).mono ?_); rintro e w5 ⟨rfl, hb5⟩))
    go_ret
    exact ⟨rfl, below_then (below_then HB.out HB2.out) hb5⟩
  · have hlen2 : ¬ (100 : Int) < (n : Int) := by omega
    have hn150 : (n : Int) ≤ 100 := by omega
    go_enter Try.func5, Try.ntmps5
    go_wp2_with (first | (go_at_call 9; (with_reducible refine (bnew_any w).mono ?_); rintro e w1 ⟨g, gb, gs, rfl, hB, hb⟩; have HB1 := Lib.hid (And.intro hB hb); clear hB hb) | (go_at_call 9; (with_reducible refine (bnew_any w1).mono ?_); rintro e w2 ⟨g2, gb2, gs2, rfl, hB, hb⟩; have HPR0 := Lib.hid (pair_new HB1.out.1 hb hB (Nat.le_refl _)); have HB2 := Lib.hid (below_then HB1.out.2 hb); have hb1s := HB1.out.2.size; clear hB hb HB1))
    refine wp_loop_ghost_k (fun gh ac wx => ∃ (u : Nat → Value), TnR n w g gb gs w.heap.size g2 gb2 gs2 w1.heap.size gh (u 38) wx ∧ ac = { tmps := #[.slice a n cap, u 1, u 2, .pointer (some ⟨g, 0, none⟩), .pointer (some ⟨g2, 0, none⟩), u 5, u 6, u 7, u 8, u 9, u 10, u 11, u 12, u 13, u 14, u 15, u 16, u 17, u 18, u 19, u 20, u 21, u 22, u 23, u 24, u 25, u 26, u 27, u 28, u 29, u 30, u 31, u 32, u 33, u 34, u 35, u 36, .int .i64 n, u 38, u 39, u 40, u 41, u 42, u 43, u 44, u 45, u 46, u 47, u 48, u 49, u 50, u 51, u 52, u 53, u 54, u 55, u 56, u 57, u 58, u 59, u 60, u 61, u 62, u 63, u 64, u 65, u 66, u 67, u 68, u 69, u 70, u 71, u 72, u 73, u 74, u 75, u 76, u 77, u 78, u 79, u 80, u 81, u 82, u 83, u 84, u 85, u 86, u 87, u 88, u 89, u 90, u 91, u 92, u 93, u 94, u 95, u 96, u 97, u 98, u 99, u 100, u 101, u 102, u 103, u 104, u 105, u 106, u 107, u 108, u 109, u 110, u 111, u 112, u 113, u 114, u 115, u 116, u 117, u 118, u 119, u 120, u 121, u 122, u 123, u 124, u 125, u 126, u 127, u 128, u 129, u 130, u 131, u 132, u 133, u 134, u 135, u 136, u 137, u 138, u 139, u 140, u 141, u 142, u 143, u 144, u 145, u 146, u 147, u 148, u 149, u 150, u 151, u 152, u 153, u 154, u 155, u 156, u 157, u 158, u 159, u 160, u 161, u 162, u 163, u 164, u 165, u 166, u 167, u 168, u 169, u 170, u 171, u 172, u 173, u 174, u 175, u 176, u 177, u 178, u 179, u 180, u 181, u 182, u 183, u 184, u 185, u 186, u 187, u 188, u 189, u 190, u 191, u 192, u 193, u 194, u 195, u 196, u 197, u 198, u 199, u 200, u 201, u 202, u 203, u 204, u 205, u 206, u 207], defers := [] }) n ?_ ?_
    · exact ex_act ⟨0, [], [], by omega, by omega, rfl, HPR0.out, bi_new, bi_new, HB2.out⟩ (by rfl)
    · clear HPR0 HB2
      rintro gh ac wr ⟨u, ⟨i, lb, ls, hi, rfl, e38, hpr, hi1, hi2, hb⟩, rfl⟩ J K hJ hK
      rw [e38]
      have HPR := Lib.hid hpr
      have HI1 := Lib.hid hi1
      have HI2 := Lib.hid hi2
      have HB := Lib.hid hb
      have HJ := Lib.hid hJ
      have hws := hb.size
      clear hpr hi1 hi2 hb hJ e38
      by_cases hlt : i < n
      · have hlti : (i : Int) < (n : Int) := by omega
        obtain ⟨g9, off9, C9, t9, fr9, rfl, hg9, hn9, hx9⟩ := (HR.out.kept HB.out) i hlt
        have HXL := Lib.hid (op_lit (HL.out i))
        have HO := Lib.hid (ox_ok (HL.out i).o)
        obtain ⟨X, hX⟩ : ∃ X, X = L i := ⟨_, rfl⟩
        obtain ⟨k, hk⟩ : ∃ k, k = N (L i) 0 := ⟨_, rfl⟩
        obtain ⟨o, ho⟩ : ∃ o, o = opO (L i) := ⟨_, rfl⟩
        obtain ⟨k2, hk2⟩ : ∃ k2, k2 = N (L i) 6 := ⟨_, rfl⟩
        have hXO : X = opa k o k2 := by rw [hX, hk, ho, hk2]; exact HXL.out
        have hOk : OkO o := by rw [ho]; exact HO.out
        have hx9' : C9.extract (off9 + i * 7) (off9 + i * 7 + 7) = X := hx9.trans hX.symm
        have HX9 := Lib.hid hx9'
        have HPL := Lib.hid (fun (w' : World) (g9 gb9 gs9 b9 : Nat) (l1 l2 : List Od) (h : BkG w' g9 gb9 gs9 b9 l1 l2) (h2 : BiX true l1 l2) => play_any X (by rw [hX]; exact HL.out i) h h2)
        have HXP := Lib.hid (show IsOp X from by rw [hX]; exact HL.out i)
        have HOPF := Lib.hid (show ∀ l1 l2, opF X l1 l2 = plyF k o k2 l1 l2 from fun l1 l2 => by rw [hX, hk, ho, hk2]; rfl)
        clear hX hk ho hk2 hx9 hx9' HXL HO
        have HOK := Lib.hid hOk
        clear hOk
        have hXs : X.size = 7 := by rw [hXO]; rfl
        have x0' : X[0]? = some (.int .i64 k) := by rw [hXO]; rfl
        have x1' : X[1]? = some (.int .u64 o.n) := by rw [hXO]; rfl
        have x3' : X[3]? = some (.bool o.b) := by rw [hXO]; rfl
        have x4' : X[4]? = some (.int .i64 o.p) := by rw [hXO]; rfl
        have x5' : X[5]? = some (.int .i64 o.q) := by rw [hXO]; rfl
        have x6' : X[6]? = some (.int .u8 k2) := by rw [hXO]; rfl
        obtain ⟨_, y0'⟩ := Array.getElem?_eq_some_iff.1 x0'
        obtain ⟨_, y1'⟩ := Array.getElem?_eq_some_iff.1 x1'
        obtain ⟨_, y3'⟩ := Array.getElem?_eq_some_iff.1 x3'
        obtain ⟨_, y4'⟩ := Array.getElem?_eq_some_iff.1 x4'
        obtain ⟨_, y5'⟩ := Array.getElem?_eq_some_iff.1 x5'
        obtain ⟨_, y6'⟩ := Array.getElem?_eq_some_iff.1 x6'
        have HXA := Lib.hid (show X.all (·.oneCell') = true from by rw [hXO]; exact opa_all k o k2)
        have HXO := Lib.hid hXO
        have HXS := Lib.hid hXs
        have HXE := Lib.hid (show X.extract 0 (0 + 7) = X from by rw [show 0 + 7 = X.size by rw [hXs]]; simp)
        clear hXO
        have cx := cellF (heap_alloc_new wr (Obj.cells X 33))
        have hxx := heap_alloc_new wr (Obj.cells X 33)
        have hbx := below_new wr (Obj.cells X 33)
        by_cases hp : 1 ≤ o.p ∧ o.p ≤ 1000
        · have hp1 : ¬ o.p < 1 := by omega
          have hp2 : ¬ 1000 < o.p := by omega
          have hwp : IntKind.i64.wrap (1001 - o.p) = 1001 - o.p := by rw [IntKind.wrap_i64]; omega
          have cy := cellF (heap_alloc_new (wr.alloc (Obj.cells X 33)) (Obj.cells X 33))
          have cx2 := cellF (heap_up (o := Obj.cells X 33) hxx)
          go_upto_region 12 with (first | ((with_reducible refine at_load 33 ?_); refine wpList_load_part rfl 33 _ rfl (g9) (off9 + i * 7) rfl _ (C9) _ _ 7 (hg9) Try.underlying33 rfl (by kernel_rfl) (hn9) (X) (HX9.out) ?_) | ((with_reducible refine at_load 33 ?_); refine wpList_load_part rfl 33 _ rfl (wr.heap.size) (0) rfl _ (X) _ _ 7 (hxx) Try.underlying33 rfl (by kernel_rfl) (by omega) (X) (HXE.out) ?_) | ((with_reducible refine at_alloc 33 ?_); refine wpList_alloc_named rfl 33 rfl (zop) (by kernel_rfl) ?_) | ((with_reducible refine at_store 33 ?_); refine wpList_store_new rfl 33 _ _ rfl (X) _ _ _ rfl (by simp) rfl (by rw [HXS.out]; kernel_rfl) (by rw [HXS.out]; rfl) (HXA.out) ?_))
          have hby := below_alloc hbx (Obj.cells ((X.setIfInBounds 3 (.bool !o.b)).setIfInBounds 4 (.int .i64 (1001 - o.p))) 33)
          have hxy := heap_up (o := Obj.cells ((X.setIfInBounds 3 (.bool !o.b)).setIfInBounds 4 (.int .i64 (1001 - o.p))) 33) hxx
          have hyy : ((wr.alloc (Obj.cells X 33)).alloc (Obj.cells ((X.setIfInBounds 3 (.bool !o.b)).setIfInBounds 4 (.int .i64 (1001 - o.p))) 33)).heap[wr.heap.size + 1]? = some (.cells ((X.setIfInBounds 3 (.bool !o.b)).setIfInBounds 4 (.int .i64 (1001 - o.p))) 33 (0, 0)) := by
            have := heap_alloc_new (wr.alloc (Obj.cells X 33)) (Obj.cells ((X.setIfInBounds 3 (.bool !o.b)).setIfInBounds 4 (.int .i64 (1001 - o.p))) 33)
            simpa using this
          have HPY := Lib.hid (HPR.out.below hby)
          have HBY := Lib.hid (below_then HB.out hby)
          have HYO := Lib.hid (show (X.setIfInBounds 3 (.bool !o.b)).setIfInBounds 4 (.int .i64 (1001 - o.p)) = opa k (tn o) k2 from by rw [HXO.out]; rfl)
          obtain ⟨wy, hwy⟩ : ∃ wy, wy = (wr.alloc (Obj.cells X 33)).alloc (Obj.cells ((X.setIfInBounds 3 (.bool !o.b)).setIfInBounds 4 (.int .i64 (1001 - o.p))) 33) := ⟨_, rfl⟩
          rw [← hwy] at hxy hyy HPY HBY ⊢
          clear hwy hby hbx hxx cy cx cx2
          obtain ⟨Y, hY⟩ : ∃ Y, Y = (X.setIfInBounds 3 (.bool !o.b)).setIfInBounds 4 (.int .i64 (1001 - o.p)) := ⟨_, rfl⟩
          rw [← hY] at hyy HYO
          clear hY
          have hYO := HYO.out
          have hYs : Y.size = 7 := by rw [hYO]; rfl
          have u0' : Y[0]? = some (.int .i64 k) := by rw [hYO]; rfl
          have u1' : Y[1]? = some (.int .u64 o.n) := by rw [hYO]; rfl
          have u4' : Y[4]? = some (.int .i64 (1001 - o.p)) := by rw [hYO]; rfl
          have u5' : Y[5]? = some (.int .i64 o.q) := by rw [hYO]; rfl
          have u6' : Y[6]? = some (.int .u8 k2) := by rw [hYO]; rfl
          obtain ⟨_, t0'⟩ := Array.getElem?_eq_some_iff.1 u0'
          obtain ⟨_, t1'⟩ := Array.getElem?_eq_some_iff.1 u1'
          obtain ⟨_, t4'⟩ := Array.getElem?_eq_some_iff.1 u4'
          obtain ⟨_, t5'⟩ := Array.getElem?_eq_some_iff.1 u5'
          obtain ⟨_, t6'⟩ := Array.getElem?_eq_some_iff.1 u6'
          have HEXo := Lib.hid (show X.extract 1 (1 + 5) = oa o from by rw [HXO.out]; rfl)
          have HEYo := Lib.hid (show Y.extract 1 (1 + 5) = oa (tn o) from by rw [hYO]; rfl)
          have HYE := Lib.hid (show Y.extract 0 (0 + 7) = Y from by rw [show 0 + 7 = Y.size by rw [hYs]]; simp)
          have HOT := Lib.hid (show OkO (tn o) from ⟨HOK.out.n, HOK.out.a, by show F64 (1001 - o.p); unfold F64; omega, HOK.out.q⟩)
          have HYP := Lib.hid (show IsOp Y from by
            rw [hYO]
            refine ⟨rfl, ?_, oa_ord HOT.out, ?_⟩
            · have h := HXP.out.k
              rw [HXO.out] at h
              exact ⟨rfl, h.2⟩
            · have h := HXP.out.n
              rw [HXO.out] at h
              exact ⟨rfl, h.2⟩)
          have HPD := Lib.hid hp
          clear hYO hp hwp hp1 hp2
          obtain ⟨x0, hx0⟩ : ∃ x0, x0 = wr.heap.size := ⟨_, rfl⟩
          obtain ⟨y0, hy0⟩ : ∃ y0, y0 = wr.heap.size + 1 := ⟨_, rfl⟩
          rw [← hy0] at hyy ⊢
          rw [← hx0] at hxy ⊢
          clear hx0 hy0
          have hwy : w.heap.size ≤ wy.heap.size := HBY.out.size
          have hb1w : w1.heap.size ≤ wy.heap.size := by
            have h1 := (blk_lt HPY.out.b (.inl rfl)).1
            have h2 := (blk_lt HPY.out.b (.inl rfl)).2
            omega
          have cxk := cellF hxy
          have HEV := Lib.hid (show ∀ (A : Ans), True from fun _ => trivial)
          by_cases h1 : k = 1
          · subst h1
            have HCA := Lib.hid (fun (w' : World) (g9 gb9 gs9 b9 : Nat) (h : BkG w' g9 gb9 gs9 b9 lb ls) => place_any o k2 h HI1.out HOK.out)
            have HCB := Lib.hid (fun (w' : World) (g9 gb9 gs9 b9 : Nat) (h : BkG w' g9 gb9 gs9 b9 (tl ls) (tl lb)) => (show Calls Try.prog 14 #[.pointer (some ⟨g9, 0, none⟩), .agg (oa (tn o)), .int .u8 k2] w' fun e w9 => PA w' w9 e g9 gb9 gs9 b9 (tnA (plcF o k2 lb ls)) from by
              have := place_any (tn o) k2 h HI2.out HOT.out
              rw [plc_tn k2 lb ls HPD.out] at this
              exact this))
            have HIA := Lib.hid (bi_plc (o := o) (k := k2) HI1.out)
            have HIB := Lib.hid (show BiX true (tl (plcF o k2 lb ls).ls) (tl (plcF o k2 lb ls).lb) from by
              have := bi_plc (o := tn o) (k := k2) HI2.out
              rw [plc_tn k2 lb ls HPD.out] at this
              exact this)
            have HTO := Lib.hid (fun t ht => (plc_trs (o := o) (k := k2) HI1.out t ht).ok (fun x hx => by
              unfold oth at hx
              split at hx
              · exact HPY.out.a.two.s.ok x hx
              · exact HPY.out.a.two.b.ok x hx))
            have HTP := Lib.hid (fun t ht => plc_pr (o := o) (k := k2) HI1.out t ht)
            have HTL := Lib.hid (plc_len (o := o) (k := k2) HI1.out)
            generalize plcF o k2 lb ls = AA at *
            have HLEN := Lib.hid (show (tnA AA).tr.length = AA.tr.length from by simp [tnA])
            have cxa := cellF (heap_up (o := Obj.cells pl0 41) (heap_up (o := Obj.cells pl0 41) hxy))
            go_upto_region 20 with (((with_reducible refine at_alloc 41 ?_); refine wpList_alloc_named rfl 41 rfl (pl0) (by kernel_rfl) ?_))
            have hb8 := below_alloc (below_new wy (Obj.cells pl0 41)) (Obj.cells pl0 41)
            have hp8 := heap_up (o := Obj.cells pl0 41) (heap_alloc_new wy (Obj.cells pl0 41))
            have hp9 : ((wy.alloc (Obj.cells pl0 41)).alloc (Obj.cells pl0 41)).heap[wy.heap.size + 1]? = some (.cells pl0 41 (0, 0)) := by
              have := heap_alloc_new (wy.alloc (Obj.cells pl0 41)) (Obj.cells pl0 41)
              simpa using this
            have HP8 := Lib.hid (HPY.out.below hb8)
            have hx8 := Ytmjfbilhalkegaa.kept hb8 hxy
            have hy8 := Ytmjfbilhalkegaa.kept hb8 hyy
            have HB8 := Lib.hid (below_then HBY.out hb8)
            obtain ⟨p8, hp8e⟩ : ∃ p8, p8 = wy.heap.size := ⟨_, rfl⟩
            obtain ⟨w8, hw8⟩ : ∃ w8, w8 = (wy.alloc (Obj.cells pl0 41)).alloc (Obj.cells pl0 41) := ⟨_, rfl⟩
            rw [← hw8] at hp8 hp9 HP8 hx8 hy8 HB8 ⊢
            rw [← hp8e] at hp8 hp9 ⊢
            have hp8l := (Array.getElem?_eq_some_iff.1 hp8).1
            have hwp8 : w.heap.size ≤ p8 := by rw [hp8e]; exact hwy
            have hw1p8 : w1.heap.size ≤ p8 := by rw [hp8e]; exact hb1w
            clear hw8 hp8e hb8 hxy hyy HPY HBY cxa cxk
            have cx := cellF hx8
            have HPS := Lib.hid (show pl0.size = 4 from rfl)
            go_upto_region 21 with (first | ((with_reducible refine at_load 30 ?_); refine wpList_load_part rfl 30 _ rfl (x0) (1) rfl _ (X) _ _ 5 (hx8) Try.underlying30 rfl (by kernel_rfl) (by omega) (oa o) (HEXo.out) ?_) | (go_at_call 14; (with_reducible refine ((HCA.out _ _ _ _ _ HP8.out.a)).mono ?_); rintro e w3 hpa; obtain ⟨vt, vg, rfl, ht, hg⟩ := hpa.ex; obtain ⟨av, ac, rfl, hT, _⟩ := own_rows (c := 4) (fun i => rfl) ht; obtain ⟨bv, bc, rfl⟩ := own_formB hg; have HP3 := Lib.hid (HP8.out.one hpa.bs); have HB3 := Lib.hid hpa.bs.be; have hp83 := bks_T HP8.out.a hpa.bs (by decide) (by decide) hp8; have hp93 := bks_T HP8.out.a hpa.bs (by decide) (by decide) hp9; have hx3 := bks_T HP8.out.a hpa.bs (by decide) (by decide) hx8; have hy3 := bks_T HP8.out.a hpa.bs (by decide) (by decide) hy8; have HT1 := Lib.hid hT; clear ht hg hpa hT cx) | ((with_reducible refine at_store 41 ?_); refine wpList_store_over rfl 41 _ _ rfl (p8) (#[.slice av AA.tr.length ac, .slice bv AA.gn.length bc, .int .i64 AA.fl, .int .i64 AA.lf]) rfl rfl _ _ (hp83) (by kernel_rfl) (rfl) (pl_all) ?_; intro w9 hg9 hs9 ho9 hb9; have HP9 := Lib.hid (HP3.out.off hp83 (by decide) (by decide) (by decide) ho9); have hp99 := (ho9 (p8 + 1) (by omega)).trans hp93; have hx9 := (ho9 _ (ne_ty hx3 hp83 (by decide))).trans hx3; have hy9 := (ho9 _ (ne_ty hy3 hp83 (by decide))).trans hy3; have HT9 := Lib.hid (rowsT_off HT1.out hp83 (by decide) ho9); have HB9 := Lib.hid (hb9 w.heap.size (by omega)); have hs9' := hs9; clear hs9 ho9 hb9))
            have cy := cellF hy9
            clear hx8 hy8 hp8 hp9 hp83 hp93 hx3 hy3
            go_upto_region 24 with (first | ((with_reducible refine at_load 30 ?_); refine wpList_load_part rfl 30 _ rfl (y0) (1) rfl _ (Y) _ _ 5 (hy9) Try.underlying30 rfl (by kernel_rfl) (by omega) (oa (tn o)) (HEYo.out) ?_) | (go_at_call 14; (with_reducible refine ((HCB.out _ _ _ _ _ HP9.out.b)).mono ?_); rintro e w4 hpa; obtain ⟨vt2, vg2, rfl, ht, hg⟩ := hpa.ex; obtain ⟨av2, ac2, rfl, hT, _⟩ := own_rows (c := 4) (fun i => rfl) ht; obtain ⟨bv2, bc2, rfl⟩ := own_formB hg; have HP4 := Lib.hid (HP9.out.two hpa.bs); have HB4 := Lib.hid hpa.bs.be; have hp84 := bks_T HP9.out.b hpa.bs (by decide) (by decide) hg9; have hp94 := bks_T HP9.out.b hpa.bs (by decide) (by decide) hp99; have HT14 := Lib.hid (rowsT_T HP9.out.b hpa.bs (by decide) (by decide) HT9.out); rw [show (tnA AA).tr.length = AA.tr.length from HLEN.out, show (tnA AA).gn = AA.gn from rfl, show (tnA AA).fl = AA.fl from rfl, show (tnA AA).lf = AA.lf from rfl, show (tnA AA).er = AA.er from rfl]; rw [show (tnA AA).tr.length = AA.tr.length from HLEN.out] at hT; have HT24 := Lib.hid hT; clear ht hg hpa hT cy) | ((with_reducible refine at_store 41 ?_); refine wpList_store_over rfl 41 _ _ rfl (p8 + 1) (#[.slice av2 AA.tr.length ac2, .slice bv2 AA.gn.length bc2, .int .i64 AA.fl, .int .i64 AA.lf]) rfl rfl _ _ (hp94) (by kernel_rfl) (rfl) (pl_all) ?_; intro w5 hg5 hs5 ho5 hb5; have HP5 := Lib.hid (HP4.out.off hp94 (by decide) (by decide) (by decide) ho5); have hp85 := (ho5 p8 (by omega)).trans hp84; have HT15 := Lib.hid (rowsT_off HT14.out hp94 (by decide) ho5); have HT25 := Lib.hid (rowsT_off HT24.out hp94 (by decide) ho5); have HB5 := Lib.hid (hb5 w.heap.size (by omega)); clear ho5 hb5))
            have HBX5 := Lib.hid (show Below w.heap.size w w5 from ((((HB8.out.trans (HB3.out.mono (by omega))).trans HB9.out).trans (HB4.out.mono (by omega))).trans HB5.out))
            clear hx9 hy9 hp84 hp94 hp99
            have HCT := Lib.hid (show ∀ j, j < AA.tr.length → trs (tnA AA).tr j = tt (trs AA.tr j) from fun j hj => trs_map hj)
            generalize AA.er = er at *
            generalize AA.fl = fl at *
            generalize AA.lf = lf at *
            generalize AA.gn.length = ng at *
            generalize hnt : AA.tr.length = nt at *
            have HNT := Lib.hid hnt
            clear hnt
            have c8 := cellF hp85
            have c9 := cellF hg5
            have HPE5 := Lib.hid HP5.out
            have HW8 := Lib.hid hp85
            have HW9 := Lib.hid hg5
            have hnt100 : nt ≤ 100000 := HTL.out
            clear hp85 hg5 HP8 HP3 HP9 HP4 HT1 HT9 HT14 HT24 HB3 HB9 HB4 HB5 HB8
            go_wp2_with fail
            refine wp_loop_ghost_k (fun gh ac wx => ∃ (u : Nat → Value), TREL2 nt w5 gh (u 166) wx ∧ ac = { tmps := #[.slice (some ⟨g9, off9, none⟩) n cap, u 1, u 2, .pointer (some ⟨g, 0, none⟩), .pointer (some ⟨g2, 0, none⟩), u 5, u 6, u 7, .pointer (some ⟨p8, 0, none⟩), .pointer (some ⟨p8 + 1, 0, none⟩), u 10, u 11, u 12, u 13, u 14, u 15, u 16, u 17, u 18, u 19, u 20, u 21, u 22, u 23, u 24, u 25, u 26, u 27, u 28, u 29, u 30, u 31, u 32, u 33, u 34, u 35, u 36, .int .i64 n, .int .i64 i, u 39, u 40, u 41, u 42, u 43, u 44, u 45, u 46, u 47, u 48, u 49, u 50, u 51, u 52, u 53, u 54, u 55, u 56, u 57, u 58, u 59, u 60, u 61, u 62, u 63, u 64, u 65, u 66, u 67, u 68, u 69, u 70, u 71, u 72, u 73, u 74, u 75, u 76, u 77, u 78, u 79, u 80, u 81, u 82, u 83, u 84, u 85, u 86, u 87, u 88, u 89, u 90, u 91, u 92, u 93, u 94, u 95, u 96, u 97, u 98, u 99, u 100, u 101, u 102, u 103, u 104, u 105, u 106, u 107, u 108, u 109, u 110, u 111, u 112, u 113, u 114, u 115, u 116, u 117, u 118, u 119, u 120, u 121, u 122, u 123, u 124, u 125, u 126, u 127, u 128, u 129, u 130, u 131, u 132, u 133, u 134, u 135, u 136, u 137, u 138, u 139, u 140, u 141, u 142, u 143, u 144, u 145, u 146, u 147, u 148, u 149, u 150, u 151, u 152, u 153, u 154, u 155, u 156, u 157, u 158, u 159, u 160, u 161, u 162, u 163, u 164, .int .i64 nt, u 166, u 167, u 168, u 169, u 170, u 171, u 172, u 173, u 174, u 175, u 176, u 177, u 178, u 179, u 180, u 181, u 182, u 183, u 184, u 185, u 186, u 187, u 188, u 189, u 190, u 191, u 192, u 193, u 194, u 195, u 196, u 197, u 198, u 199, u 200, u 201, u 202, u 203, u 204, u 205, u 206, u 207], defers := [] }) nt ?_ ?_
            · exact ex_act ⟨0, by omega, by omega, rfl, Below.refl _ _⟩ (by rfl)
            · rintro gh2 ac2 wr2 ⟨u2, ⟨j, hj, rfl, e166, hb⟩, rfl⟩ J2 K2 hJ2 hK2
              rw [e166]
              have HBX := Lib.hid hb
              have HJ2 := Lib.hid hJ2
              clear hb e166 hJ2 c8 c9
              by_cases hlj : j < nt
              · have hlji : (j : Int) < (nt : Int) := by omega
                obtain ⟨gT, oT, CT, fT, rfl, hgT, hsT, hxT⟩ := (rowsT_kept HT15.out HBX.out) j hlj
                obtain ⟨gU, oU, CU, fU, rfl, hgU, hsU, hxU⟩ := (rowsT_kept HT25.out HBX.out) j hlj
                have hxT' : CT.extract (oT + j * 4) (oT + j * 4 + 4) = ta (trs AA.tr j) := hxT
                have hxU' : CU.extract (oU + j * 4) (oU + j * 4 + 4) = ta (tt (trs AA.tr j)) := hxU.trans (by show ta (trs (tnA AA).tr j) = _; rw [HCT.out j hlj])
                have hneq := neq_tr (HTO.out _ (trs_in (by rw [HNT.out]; exact hlj)))
                have hpr := (HTO.out _ (trs_in (l := AA.tr) (j := j) (by rw [HNT.out]; exact hlj))).p
                have hprb := HTP.out _ (trs_in (l := AA.tr) (j := j) (by rw [HNT.out]; exact hlj))
                have z0 : (ta (tt (trs AA.tr j)))[0]? = some (.int .i64 (1001 - (trs AA.tr j).p)) := rfl
                obtain ⟨_, v0⟩ := Array.getElem?_eq_some_iff.1 z0
                have hwt : IntKind.i64.wrap (1001 - (1001 - (trs AA.tr j).p)) = (trs AA.tr j).p := by rw [IntKind.wrap_i64]; omega
                have hwt2 : (1001 - (1001 - (trs AA.tr j).p) : Int) = (trs AA.tr j).p := by omega
                have HSET := Lib.hid (show (ta (tt (trs AA.tr j))).setIfInBounds 0 (.int .i64 (wrap64 (trs AA.tr j).p)) = ta (trs AA.tr j) from by rw [show wrap64 (trs AA.tr j).p = (trs AA.tr j).p from by unfold wrap64; omega]; rfl)
                have HUS := Lib.hid (show (ta (tt (trs AA.tr j))).size = 4 from rfl)
                have HUA := Lib.hid (ta_all (tt (trs AA.tr j)))
                have HTS := Lib.hid (show (ta (trs AA.tr j)).size = 4 from rfl)
                generalize ta (trs AA.tr j) = TA at *
                generalize ta (tt (trs AA.tr j)) = TU at *
                generalize (trs AA.tr j).p = tp at *
                have HXT := Lib.hid hxT'
                have HXU := Lib.hid hxU'
                have c9 := cellF (Ytmjfbilhalkegaa.kept HBX.out HW9.out)
                have hTx := heap_alloc_new wr2 (Obj.cells TA 46)
                have hbT := below_new wr2 (Obj.cells TA 46)
                have HGT7 := Lib.hid (Ytmjfbilhalkegaa.kept hbT hgT)
                have HW87 := Lib.hid (Ytmjfbilhalkegaa.kept hbT (Ytmjfbilhalkegaa.kept HBX.out HW8.out))
                have cu0 := cellF (heap_alloc_new wr2 (Obj.cells TU 46))
                clear hxT hxU hxT' hxU' hpr hprb
                go_upto_region 31 with (first | ((with_reducible refine at_load 46 ?_); refine wpList_load_part rfl 46 _ rfl (gU) (oU + j * 4) rfl _ (CU) _ _ 4 (hgU) Try.underlying46 rfl (by kernel_rfl) (hsU) (TU) (HXU.out) ?_) | ((with_reducible refine at_alloc 46 ?_); refine wpList_alloc_named rfl 46 rfl (#[.int .i64 0, .int .i64 0, .int .u64 0, .int .u32 0]) (by kernel_rfl) ?_) | ((with_reducible refine at_store 46 ?_); refine wpList_store_new rfl 46 _ _ rfl (TU) _ _ _ rfl (by simp) rfl (by rw [HUS.out]; kernel_rfl) (by rw [HUS.out]; rfl) (HUA.out) ?_))
                rw [HSET.out]
                have HB7 := Lib.hid (below_then HBX.out hbT)
                have hEX := extract_all4 HTS.out
                refine wp_region_below (by kernel_rfl) (by kernel_rfl) ?_
                repeat (first | ((with_reducible apply q_skip); (case hw => rfl); (try simp only [Act.put, List.setIfInBounds_toArray, List.set_cons_zero, List.set_cons_succ])) | ((with_reducible refine at_qload 46 ?_); refine q_load_fr (by rfl) 46 _ rfl (gT) (oT + j * 4) rfl _ (CT) _ _ 4 (HGT7.out) Try.underlying46 rfl (by kernel_rfl) (hsT) (TA) (HXT.out) ?_; try simp only [Act.put, List.setIfInBounds_toArray, List.set_cons_zero, List.set_cons_succ]) | ((with_reducible refine at_qload 46 ?_); refine q_load_fr (by rfl) 46 _ rfl (wr2.heap.size) (0) rfl _ (TA) _ _ 4 (hTx) Try.underlying46 rfl (by kernel_rfl) (by rw [HTS.out]; omega) (TA) (hEX) ?_; try simp only [Act.put, List.setIfInBounds_toArray, List.set_cons_zero, List.set_cons_succ]) | ((with_reducible apply q_val); (case hw => rfl); (case hv => intro wq hbq; have hcq := cellF (Ytmjfbilhalkegaa.kept hbq HW87.out); go_simp; try rfl); (try simp only [Act.put, List.setIfInBounds_toArray, List.set_cons_zero, List.set_cons_succ])))
                refine q_nil ?_
                intro w4q hb4
                have HB4q := Lib.hid (below_then HB7.out hb4)
                clear hb4
                go_wp2
                exact close_round HJ2.out (nt - (j + 1)) (by omega) (ex_act ⟨j + 1, by omega, rfl, by simp, HB4q.out⟩ (by rfl))
              · obtain rfl : j = nt := by omega
                have HPE := Lib.hid (show Pair wr2 g gb gs w.heap.size AA.lb AA.ls g2 gb2 gs2 w1.heap.size (tl AA.ls) (tl AA.lb) from HPE5.out.below HBX.out)
                have HBZ := Lib.hid (HBX5.out.trans (HBX.out.mono HBX5.out.size))
                clear HPE5 HT15 HT25 HW8 HW9 HBX HBX5
                -- totals
                have hlenA := bi_len HIA.out
                have hlenB := bi_len HIB.out
                go_upto_region 36 with (first | (go_at_call 13; (with_reducible refine ((orders_in HPE.out.a hlenA)).mono ?_); rintro e w8o ⟨⟨v8, rfl, ho8⟩, hb8⟩; obtain ⟨a8, c8, rfl, hR8, _⟩ := own_rows (c := 5) (fun i => (all_ord HPE.out.a i).size) ho8; have HR8 := Lib.hid (RL.of hR8); have HPF := Lib.hid (HPE.out.below hb8); have HB8 := Lib.hid hb8; rw [List.length_append] at hR8; clear hb8 ho8 hR8) | (go_at_call 15; (with_reducible refine ((total_book (all_ord HPE.out.a) HIA.out (by rw [List.length_append]) HR8.out.r)).mono ?_); rintro e w5 ⟨rfl, rfl⟩) | (go_at_call 13; (with_reducible refine ((orders_in HPF.out.b hlenB)).mono ?_); rintro e w9o ⟨⟨v9, rfl, ho9⟩, hb9⟩; obtain ⟨a9, c9, rfl, hR9, _⟩ := own_rows (c := 5) (fun i => (all_ord HPF.out.b i).size) ho9; have HR9 := Lib.hid (RL.of hR9); have HPG := Lib.hid (HPF.out.below hb9); have HB9 := Lib.hid hb9; clear hb9 ho9 hR9) | (go_at_call 15; (with_reducible refine ((total_book (all_ord HPF.out.b) HIB.out (by rw [List.length_append]) HR9.out.r)).mono ?_); rintro e w5 ⟨rfl, rfl⟩))
                rw [lQ_tl, lQ_tl]
                have HBE := Lib.hid (show Below w.heap.size w w9o from (HBZ.out.trans (HB8.out.mono (by have := HBZ.out.size; omega))).trans (HB9.out.mono (by have := HBZ.out.size; have := HB8.out.size; omega)))
                go_wp2
                exact close_round HJ.out (n - (i + 1)) (by omega) (ex_act ⟨i + 1, _, _, by omega, rfl, by simp, HPG.out, HIA.out, HIB.out, HBE.out⟩ (by rfl))
          by_cases h2 : k = 2
          · subst h2
            have HCA := Lib.hid (fun (w' : World) (g9 gb9 gs9 b9 : Nat) (h : BkG w' g9 gb9 gs9 b9 lb ls) => repl_any o.n o.p o.q h HI1.out HOK.out.p HOK.out.q)
            have HCB := Lib.hid (fun (w' : World) (g9 gb9 gs9 b9 : Nat) (h : BkG w' g9 gb9 gs9 b9 (tl ls) (tl lb)) => (show Calls Try.prog 16 #[.pointer (some ⟨g9, 0, none⟩), .int .u64 o.n, .int .i64 (1001 - o.p), .int .i64 o.q] w' fun e w9 => PA w' w9 e g9 gb9 gs9 b9 (tnA (rplF o.n o.p o.q lb ls)) from by
              have := repl_any o.n (1001 - o.p) o.q h HI2.out HOT.out.p HOT.out.q
              rw [rpl_tn HI1.out HPD.out] at this
              exact this))
            have HIA := Lib.hid (bi_rpl (n := o.n) (p := o.p) (q := o.q) HI1.out)
            have HIB := Lib.hid (show BiX true (tl (rplF o.n o.p o.q lb ls).ls) (tl (rplF o.n o.p o.q lb ls).lb) from by
              have := bi_rpl (n := o.n) (p := 1001 - o.p) (q := o.q) HI2.out
              rw [rpl_tn HI1.out HPD.out] at this
              exact this)
            have HTO := Lib.hid (fun t ht => (rpl_ok HI1.out (fun x hx => HPY.out.a.two.b.ok x hx) (fun x hx => HPY.out.a.two.s.ok x hx) (n := o.n) (p := o.p) (q := o.q) t ht).1)
            have HTP := Lib.hid (fun t ht => (rpl_ok HI1.out (fun x hx => HPY.out.a.two.b.ok x hx) (fun x hx => HPY.out.a.two.s.ok x hx) (n := o.n) (p := o.p) (q := o.q) t ht).2)
            have HTL := Lib.hid (rpl_len (n := o.n) (p := o.p) (q := o.q) HI1.out)
            generalize rplF o.n o.p o.q lb ls = AA at *
            have HLEN := Lib.hid (show (tnA AA).tr.length = AA.tr.length from by simp [tnA])
            have cxa := cellF (heap_up (o := Obj.cells pl0 41) (heap_up (o := Obj.cells pl0 41) hxy))
            go_upto_region 22 with (((with_reducible refine at_alloc 41 ?_); refine wpList_alloc_named rfl 41 rfl (pl0) (by kernel_rfl) ?_))
            have hb8 := below_alloc (below_new wy (Obj.cells pl0 41)) (Obj.cells pl0 41)
            have hp8 := heap_up (o := Obj.cells pl0 41) (heap_alloc_new wy (Obj.cells pl0 41))
            have hp9 : ((wy.alloc (Obj.cells pl0 41)).alloc (Obj.cells pl0 41)).heap[wy.heap.size + 1]? = some (.cells pl0 41 (0, 0)) := by
              have := heap_alloc_new (wy.alloc (Obj.cells pl0 41)) (Obj.cells pl0 41)
              simpa using this
            have HP8 := Lib.hid (HPY.out.below hb8)
            have hx8 := Ytmjfbilhalkegaa.kept hb8 hxy
            have hy8 := Ytmjfbilhalkegaa.kept hb8 hyy
            have HB8 := Lib.hid (below_then HBY.out hb8)
            obtain ⟨p8, hp8e⟩ : ∃ p8, p8 = wy.heap.size := ⟨_, rfl⟩
            obtain ⟨w8, hw8⟩ : ∃ w8, w8 = (wy.alloc (Obj.cells pl0 41)).alloc (Obj.cells pl0 41) := ⟨_, rfl⟩
            rw [← hw8] at hp8 hp9 HP8 hx8 hy8 HB8 ⊢
            rw [← hp8e] at hp8 hp9 ⊢
            have hp8l := (Array.getElem?_eq_some_iff.1 hp8).1
            have hwp8 : w.heap.size ≤ p8 := by rw [hp8e]; exact hwy
            have hw1p8 : w1.heap.size ≤ p8 := by rw [hp8e]; exact hb1w
            clear hw8 hp8e hb8 hxy hyy HPY HBY cxa cxk
            have cx := cellF hx8
            have HPS := Lib.hid (show pl0.size = 4 from rfl)
            go_upto_region 23 with (first | ((with_reducible refine at_load 30 ?_); refine wpList_load_part rfl 30 _ rfl (x0) (1) rfl _ (X) _ _ 5 (hx8) Try.underlying30 rfl (by kernel_rfl) (by omega) (oa o) (HEXo.out) ?_) | (go_at_call 16; (with_reducible refine ((HCA.out _ _ _ _ _ HP8.out.a)).mono ?_); rintro e w3 hpa; obtain ⟨vt, vg, rfl, ht, hg⟩ := hpa.ex; obtain ⟨av, ac, rfl, hT, _⟩ := own_rows (c := 4) (fun i => rfl) ht; obtain ⟨bv, bc, rfl⟩ := own_formB hg; have HP3 := Lib.hid (HP8.out.one hpa.bs); have HB3 := Lib.hid hpa.bs.be; have hp83 := bks_T HP8.out.a hpa.bs (by decide) (by decide) hp8; have hp93 := bks_T HP8.out.a hpa.bs (by decide) (by decide) hp9; have hx3 := bks_T HP8.out.a hpa.bs (by decide) (by decide) hx8; have hy3 := bks_T HP8.out.a hpa.bs (by decide) (by decide) hy8; have HT1 := Lib.hid hT; clear ht hg hpa hT cx) | ((with_reducible refine at_store 41 ?_); refine wpList_store_over rfl 41 _ _ rfl (p8) (#[.slice av AA.tr.length ac, .slice bv AA.gn.length bc, .int .i64 AA.fl, .int .i64 AA.lf]) rfl rfl _ _ (hp83) (by kernel_rfl) (rfl) (pl_all) ?_; intro w9 hg9 hs9 ho9 hb9; have HP9 := Lib.hid (HP3.out.off hp83 (by decide) (by decide) (by decide) ho9); have hp99 := (ho9 (p8 + 1) (by omega)).trans hp93; have hx9 := (ho9 _ (ne_ty hx3 hp83 (by decide))).trans hx3; have hy9 := (ho9 _ (ne_ty hy3 hp83 (by decide))).trans hy3; have HT9 := Lib.hid (rowsT_off HT1.out hp83 (by decide) ho9); have HB9 := Lib.hid (hb9 w.heap.size (by omega)); have hs9' := hs9; clear hs9 ho9 hb9))
            have cy := cellF hy9
            clear hx8 hy8 hp8 hp9 hp83 hp93 hx3 hy3
            go_upto_region 24 with (first | ((with_reducible refine at_load 30 ?_); refine wpList_load_part rfl 30 _ rfl (y0) (1) rfl _ (Y) _ _ 5 (hy9) Try.underlying30 rfl (by kernel_rfl) (by omega) (oa (tn o)) (HEYo.out) ?_) | (go_at_call 16; (with_reducible refine ((HCB.out _ _ _ _ _ HP9.out.b)).mono ?_); rintro e w4 hpa; obtain ⟨vt2, vg2, rfl, ht, hg⟩ := hpa.ex; obtain ⟨av2, ac2, rfl, hT, _⟩ := own_rows (c := 4) (fun i => rfl) ht; obtain ⟨bv2, bc2, rfl⟩ := own_formB hg; have HP4 := Lib.hid (HP9.out.two hpa.bs); have HB4 := Lib.hid hpa.bs.be; have hp84 := bks_T HP9.out.b hpa.bs (by decide) (by decide) hg9; have hp94 := bks_T HP9.out.b hpa.bs (by decide) (by decide) hp99; have HT14 := Lib.hid (rowsT_T HP9.out.b hpa.bs (by decide) (by decide) HT9.out); rw [show (tnA AA).tr.length = AA.tr.length from HLEN.out, show (tnA AA).gn = AA.gn from rfl, show (tnA AA).fl = AA.fl from rfl, show (tnA AA).lf = AA.lf from rfl, show (tnA AA).er = AA.er from rfl]; rw [show (tnA AA).tr.length = AA.tr.length from HLEN.out] at hT; have HT24 := Lib.hid hT; clear ht hg hpa hT cy) | ((with_reducible refine at_store 41 ?_); refine wpList_store_over rfl 41 _ _ rfl (p8 + 1) (#[.slice av2 AA.tr.length ac2, .slice bv2 AA.gn.length bc2, .int .i64 AA.fl, .int .i64 AA.lf]) rfl rfl _ _ (hp94) (by kernel_rfl) (rfl) (pl_all) ?_; intro w5 hg5 hs5 ho5 hb5; have HP5 := Lib.hid (HP4.out.off hp94 (by decide) (by decide) (by decide) ho5); have hp85 := (ho5 p8 (by omega)).trans hp84; have HT15 := Lib.hid (rowsT_off HT14.out hp94 (by decide) ho5); have HT25 := Lib.hid (rowsT_off HT24.out hp94 (by decide) ho5); have HB5 := Lib.hid (hb5 w.heap.size (by omega)); clear ho5 hb5))
            have HBX5 := Lib.hid (show Below w.heap.size w w5 from ((((HB8.out.trans (HB3.out.mono (by omega))).trans HB9.out).trans (HB4.out.mono (by omega))).trans HB5.out))
            clear hx9 hy9 hp84 hp94 hp99
            have HCT := Lib.hid (show ∀ j, j < AA.tr.length → trs (tnA AA).tr j = tt (trs AA.tr j) from fun j hj => trs_map hj)
            generalize AA.er = er at *
            generalize AA.fl = fl at *
            generalize AA.lf = lf at *
            generalize AA.gn.length = ng at *
            generalize hnt : AA.tr.length = nt at *
            have HNT := Lib.hid hnt
            clear hnt
            have c8 := cellF hp85
            have c9 := cellF hg5
            have HPE5 := Lib.hid HP5.out
            have HW8 := Lib.hid hp85
            have HW9 := Lib.hid hg5
            have hnt100 : nt ≤ 100000 := HTL.out
            clear hp85 hg5 HP8 HP3 HP9 HP4 HT1 HT9 HT14 HT24 HB3 HB9 HB4 HB5 HB8
            go_wp2_with fail
            refine wp_loop_ghost_k (fun gh ac wx => ∃ (u : Nat → Value), TREL2 nt w5 gh (u 166) wx ∧ ac = { tmps := #[.slice (some ⟨g9, off9, none⟩) n cap, u 1, u 2, .pointer (some ⟨g, 0, none⟩), .pointer (some ⟨g2, 0, none⟩), u 5, u 6, u 7, .pointer (some ⟨p8, 0, none⟩), .pointer (some ⟨p8 + 1, 0, none⟩), u 10, u 11, u 12, u 13, u 14, u 15, u 16, u 17, u 18, u 19, u 20, u 21, u 22, u 23, u 24, u 25, u 26, u 27, u 28, u 29, u 30, u 31, u 32, u 33, u 34, u 35, u 36, .int .i64 n, .int .i64 i, u 39, u 40, u 41, u 42, u 43, u 44, u 45, u 46, u 47, u 48, u 49, u 50, u 51, u 52, u 53, u 54, u 55, u 56, u 57, u 58, u 59, u 60, u 61, u 62, u 63, u 64, u 65, u 66, u 67, u 68, u 69, u 70, u 71, u 72, u 73, u 74, u 75, u 76, u 77, u 78, u 79, u 80, u 81, u 82, u 83, u 84, u 85, u 86, u 87, u 88, u 89, u 90, u 91, u 92, u 93, u 94, u 95, u 96, u 97, u 98, u 99, u 100, u 101, u 102, u 103, u 104, u 105, u 106, u 107, u 108, u 109, u 110, u 111, u 112, u 113, u 114, u 115, u 116, u 117, u 118, u 119, u 120, u 121, u 122, u 123, u 124, u 125, u 126, u 127, u 128, u 129, u 130, u 131, u 132, u 133, u 134, u 135, u 136, u 137, u 138, u 139, u 140, u 141, u 142, u 143, u 144, u 145, u 146, u 147, u 148, u 149, u 150, u 151, u 152, u 153, u 154, u 155, u 156, u 157, u 158, u 159, u 160, u 161, u 162, u 163, u 164, .int .i64 nt, u 166, u 167, u 168, u 169, u 170, u 171, u 172, u 173, u 174, u 175, u 176, u 177, u 178, u 179, u 180, u 181, u 182, u 183, u 184, u 185, u 186, u 187, u 188, u 189, u 190, u 191, u 192, u 193, u 194, u 195, u 196, u 197, u 198, u 199, u 200, u 201, u 202, u 203, u 204, u 205, u 206, u 207], defers := [] }) nt ?_ ?_
            · exact ex_act ⟨0, by omega, by omega, rfl, Below.refl _ _⟩ (by rfl)
            · rintro gh2 ac2 wr2 ⟨u2, ⟨j, hj, rfl, e166, hb⟩, rfl⟩ J2 K2 hJ2 hK2
              rw [e166]
              have HBX := Lib.hid hb
              have HJ2 := Lib.hid hJ2
              clear hb e166 hJ2 c8 c9
              by_cases hlj : j < nt
              · have hlji : (j : Int) < (nt : Int) := by omega
                obtain ⟨gT, oT, CT, fT, rfl, hgT, hsT, hxT⟩ := (rowsT_kept HT15.out HBX.out) j hlj
                obtain ⟨gU, oU, CU, fU, rfl, hgU, hsU, hxU⟩ := (rowsT_kept HT25.out HBX.out) j hlj
                have hxT' : CT.extract (oT + j * 4) (oT + j * 4 + 4) = ta (trs AA.tr j) := hxT
                have hxU' : CU.extract (oU + j * 4) (oU + j * 4 + 4) = ta (tt (trs AA.tr j)) := hxU.trans (by show ta (trs (tnA AA).tr j) = _; rw [HCT.out j hlj])
                have hneq := neq_tr (HTO.out _ (trs_in (by rw [HNT.out]; exact hlj)))
                have hpr := (HTO.out _ (trs_in (l := AA.tr) (j := j) (by rw [HNT.out]; exact hlj))).p
                have hprb := HTP.out _ (trs_in (l := AA.tr) (j := j) (by rw [HNT.out]; exact hlj))
                have z0 : (ta (tt (trs AA.tr j)))[0]? = some (.int .i64 (1001 - (trs AA.tr j).p)) := rfl
                obtain ⟨_, v0⟩ := Array.getElem?_eq_some_iff.1 z0
                have hwt : IntKind.i64.wrap (1001 - (1001 - (trs AA.tr j).p)) = (trs AA.tr j).p := by rw [IntKind.wrap_i64]; omega
                have hwt2 : (1001 - (1001 - (trs AA.tr j).p) : Int) = (trs AA.tr j).p := by omega
                have HSET := Lib.hid (show (ta (tt (trs AA.tr j))).setIfInBounds 0 (.int .i64 (wrap64 (trs AA.tr j).p)) = ta (trs AA.tr j) from by rw [show wrap64 (trs AA.tr j).p = (trs AA.tr j).p from by unfold wrap64; omega]; rfl)
                have HUS := Lib.hid (show (ta (tt (trs AA.tr j))).size = 4 from rfl)
                have HUA := Lib.hid (ta_all (tt (trs AA.tr j)))
                have HTS := Lib.hid (show (ta (trs AA.tr j)).size = 4 from rfl)
                generalize ta (trs AA.tr j) = TA at *
                generalize ta (tt (trs AA.tr j)) = TU at *
                generalize (trs AA.tr j).p = tp at *
                have HXT := Lib.hid hxT'
                have HXU := Lib.hid hxU'
                have c9 := cellF (Ytmjfbilhalkegaa.kept HBX.out HW9.out)
                have hTx := heap_alloc_new wr2 (Obj.cells TA 46)
                have hbT := below_new wr2 (Obj.cells TA 46)
                have HGT7 := Lib.hid (Ytmjfbilhalkegaa.kept hbT hgT)
                have HW87 := Lib.hid (Ytmjfbilhalkegaa.kept hbT (Ytmjfbilhalkegaa.kept HBX.out HW8.out))
                have cu0 := cellF (heap_alloc_new wr2 (Obj.cells TU 46))
                clear hxT hxU hxT' hxU' hpr hprb
                go_upto_region 31 with (first | ((with_reducible refine at_load 46 ?_); refine wpList_load_part rfl 46 _ rfl (gU) (oU + j * 4) rfl _ (CU) _ _ 4 (hgU) Try.underlying46 rfl (by kernel_rfl) (hsU) (TU) (HXU.out) ?_) | ((with_reducible refine at_alloc 46 ?_); refine wpList_alloc_named rfl 46 rfl (#[.int .i64 0, .int .i64 0, .int .u64 0, .int .u32 0]) (by kernel_rfl) ?_) | ((with_reducible refine at_store 46 ?_); refine wpList_store_new rfl 46 _ _ rfl (TU) _ _ _ rfl (by simp) rfl (by rw [HUS.out]; kernel_rfl) (by rw [HUS.out]; rfl) (HUA.out) ?_))
                rw [HSET.out]
                have HB7 := Lib.hid (below_then HBX.out hbT)
                have hEX := extract_all4 HTS.out
                refine wp_region_below (by kernel_rfl) (by kernel_rfl) ?_
                repeat (first | ((with_reducible apply q_skip); (case hw => rfl); (try simp only [Act.put, List.setIfInBounds_toArray, List.set_cons_zero, List.set_cons_succ])) | ((with_reducible refine at_qload 46 ?_); refine q_load_fr (by rfl) 46 _ rfl (gT) (oT + j * 4) rfl _ (CT) _ _ 4 (HGT7.out) Try.underlying46 rfl (by kernel_rfl) (hsT) (TA) (HXT.out) ?_; try simp only [Act.put, List.setIfInBounds_toArray, List.set_cons_zero, List.set_cons_succ]) | ((with_reducible refine at_qload 46 ?_); refine q_load_fr (by rfl) 46 _ rfl (wr2.heap.size) (0) rfl _ (TA) _ _ 4 (hTx) Try.underlying46 rfl (by kernel_rfl) (by rw [HTS.out]; omega) (TA) (hEX) ?_; try simp only [Act.put, List.setIfInBounds_toArray, List.set_cons_zero, List.set_cons_succ]) | ((with_reducible apply q_val); (case hw => rfl); (case hv => intro wq hbq; have hcq := cellF (Ytmjfbilhalkegaa.kept hbq HW87.out); go_simp; try rfl); (try simp only [Act.put, List.setIfInBounds_toArray, List.set_cons_zero, List.set_cons_succ])))
                refine q_nil ?_
                intro w4q hb4
                have HB4q := Lib.hid (below_then HB7.out hb4)
                clear hb4
                go_wp2
                exact close_round HJ2.out (nt - (j + 1)) (by omega) (ex_act ⟨j + 1, by omega, rfl, by simp, HB4q.out⟩ (by rfl))
              · obtain rfl : j = nt := by omega
                have HPE := Lib.hid (show Pair wr2 g gb gs w.heap.size AA.lb AA.ls g2 gb2 gs2 w1.heap.size (tl AA.ls) (tl AA.lb) from HPE5.out.below HBX.out)
                have HBZ := Lib.hid (HBX5.out.trans (HBX.out.mono HBX5.out.size))
                clear HPE5 HT15 HT25 HW8 HW9 HBX HBX5
                -- totals
                have hlenA := bi_len HIA.out
                have hlenB := bi_len HIB.out
                go_upto_region 36 with (first | (go_at_call 13; (with_reducible refine ((orders_in HPE.out.a hlenA)).mono ?_); rintro e w8o ⟨⟨v8, rfl, ho8⟩, hb8⟩; obtain ⟨a8, c8, rfl, hR8, _⟩ := own_rows (c := 5) (fun i => (all_ord HPE.out.a i).size) ho8; have HR8 := Lib.hid (RL.of hR8); have HPF := Lib.hid (HPE.out.below hb8); have HB8 := Lib.hid hb8; rw [List.length_append] at hR8; clear hb8 ho8 hR8) | (go_at_call 15; (with_reducible refine ((total_book (all_ord HPE.out.a) HIA.out (by rw [List.length_append]) HR8.out.r)).mono ?_); rintro e w5 ⟨rfl, rfl⟩) | (go_at_call 13; (with_reducible refine ((orders_in HPF.out.b hlenB)).mono ?_); rintro e w9o ⟨⟨v9, rfl, ho9⟩, hb9⟩; obtain ⟨a9, c9, rfl, hR9, _⟩ := own_rows (c := 5) (fun i => (all_ord HPF.out.b i).size) ho9; have HR9 := Lib.hid (RL.of hR9); have HPG := Lib.hid (HPF.out.below hb9); have HB9 := Lib.hid hb9; clear hb9 ho9 hR9) | (go_at_call 15; (with_reducible refine ((total_book (all_ord HPF.out.b) HIB.out (by rw [List.length_append]) HR9.out.r)).mono ?_); rintro e w5 ⟨rfl, rfl⟩))
                rw [lQ_tl, lQ_tl]
                have HBE := Lib.hid (show Below w.heap.size w w9o from (HBZ.out.trans (HB8.out.mono (by have := HBZ.out.size; omega))).trans (HB9.out.mono (by have := HBZ.out.size; have := HB8.out.size; omega)))
                go_wp2
                exact close_round HJ.out (n - (i + 1)) (by omega) (ex_act ⟨i + 1, _, _, by omega, rfl, by simp, HPG.out, HIA.out, HIB.out, HBE.out⟩ (by rfl))
          · have n1 : (k == 1) = false := beq_eq_false_iff_ne.2 h1
            have n2 : (k == 2) = false := beq_eq_false_iff_ne.2 h2
            have HQ1 := Lib.hid (HPL.out wy g gb gs w.heap.size lb ls HPY.out.a HI1.out)
            have HFX := Lib.hid (show opF X lb ls = plyF k o k2 lb ls from HOPF.out lb ls)
            have HFY := Lib.hid (show opF Y (tl ls) (tl lb) = (tl (plyF k o k2 lb ls).2, tl (plyF k o k2 lb ls).1) from by rw [HYO.out, opF_opa, ply_tn HI1.out HI2.out HPD.out])
            have HIA := Lib.hid (bi_ply (k := k) (o := o) (k2 := k2) HI1.out)
            have HIB := Lib.hid (show BiX true (tl (plyF k o k2 lb ls).2) (tl (plyF k o k2 lb ls).1) from by
              have := bi_ply (k := k) (o := tn o) (k2 := k2) HI2.out
              rw [ply_tn HI1.out HI2.out HPD.out] at this
              exact this)
            generalize plyF k o k2 lb ls = FF at *
            go_upto_region 34 with (first | ((with_reducible refine at_load 33 ?_); refine wpList_load_part rfl 33 _ rfl (x0) (0) rfl _ (X) _ _ 7 (hxy) Try.underlying33 rfl (by kernel_rfl) (by omega) (X) (HXE.out) ?_) | (go_at_call 11; (with_reducible refine (HQ1.out).mono ?_); rintro e w3 ⟨⟨v3, rfl⟩, hs3⟩; rw [HFX.out] at hs3; have HP3 := Lib.hid (HPY.out.one hs3); have hy3 := bks_T HPY.out.a hs3 (by decide) (by decide) hyy; have HB3 := Lib.hid hs3.be; have HQ2 := Lib.hid (play_any Y HYP.out HP3.out.b HI2.out); clear hs3) | ((with_reducible refine at_load 33 ?_); refine wpList_load_part rfl 33 _ rfl (y0) (0) rfl _ (Y) _ _ 7 (hy3) Try.underlying33 rfl (by kernel_rfl) (by omega) (Y) (HYE.out) ?_) | (go_at_call 11; (with_reducible refine (HQ2.out).mono ?_); rintro e w4 ⟨⟨v4, rfl⟩, hs4⟩; rw [HFY.out] at hs4; have HPE := Lib.hid (HP3.out.two hs4); have HB4 := Lib.hid hs4.be; clear hs4))
            have HBZ := Lib.hid (show Below w.heap.size w w4 from (HBY.out.trans HB3.out).trans (HB4.out.mono (by omega)))
            clear hxy hyy hy3 cxk
            -- totals
            have hlenA := bi_len HIA.out
            have hlenB := bi_len HIB.out
            go_upto_region 36 with (first | (go_at_call 13; (with_reducible refine ((orders_in HPE.out.a hlenA)).mono ?_); rintro e w8o ⟨⟨v8, rfl, ho8⟩, hb8⟩; obtain ⟨a8, c8, rfl, hR8, _⟩ := own_rows (c := 5) (fun i => (all_ord HPE.out.a i).size) ho8; have HR8 := Lib.hid (RL.of hR8); have HPF := Lib.hid (HPE.out.below hb8); have HB8 := Lib.hid hb8; rw [List.length_append] at hR8; clear hb8 ho8 hR8) | (go_at_call 15; (with_reducible refine ((total_book (all_ord HPE.out.a) HIA.out (by rw [List.length_append]) HR8.out.r)).mono ?_); rintro e w5 ⟨rfl, rfl⟩) | (go_at_call 13; (with_reducible refine ((orders_in HPF.out.b hlenB)).mono ?_); rintro e w9o ⟨⟨v9, rfl, ho9⟩, hb9⟩; obtain ⟨a9, c9, rfl, hR9, _⟩ := own_rows (c := 5) (fun i => (all_ord HPF.out.b i).size) ho9; have HR9 := Lib.hid (RL.of hR9); have HPG := Lib.hid (HPF.out.below hb9); have HB9 := Lib.hid hb9; clear hb9 ho9 hR9) | (go_at_call 15; (with_reducible refine ((total_book (all_ord HPF.out.b) HIB.out (by rw [List.length_append]) HR9.out.r)).mono ?_); rintro e w5 ⟨rfl, rfl⟩))
            rw [lQ_tl, lQ_tl]
            have HBE := Lib.hid (show Below w.heap.size w w9o from (HBZ.out.trans (HB8.out.mono (by have := HBZ.out.size; omega))).trans (HB9.out.mono (by have := HBZ.out.size; have := HB8.out.size; omega)))
            go_wp2
            exact close_round HJ.out (n - (i + 1)) (by omega) (ex_act ⟨i + 1, _, _, by omega, rfl, by simp, HPG.out, HIA.out, HIB.out, HBE.out⟩ (by rfl))
        · have hb1 : (decide (o.p < 1) || decide (1000 < o.p)) = true := by simp; omega
          by_cases hp1 : o.p < 1
          · go_wp2_with (first | ((with_reducible refine at_load 33 ?_); refine wpList_load_part rfl 33 _ rfl (g9) (off9 + i * 7) rfl _ (C9) _ _ 7 (hg9) Try.underlying33 rfl (by kernel_rfl) (hn9) (X) (HX9.out) ?_) | ((with_reducible refine at_alloc 33 ?_); refine wpList_alloc_named rfl 33 rfl (zop) (by kernel_rfl) ?_) | ((with_reducible refine at_store 33 ?_); refine wpList_store_new rfl 33 _ _ rfl (X) _ _ _ rfl (by simp) rfl (by rw [HXS.out]; kernel_rfl) (by rw [HXS.out]; rfl) (HXA.out) ?_))
            exact close_round HJ.out (n - (i + 1)) (by omega) (ex_act ⟨i + 1, lb, ls, by omega, rfl, by simp, HPR.out.below hbx, HI1.out, HI2.out, below_then HB.out hbx⟩ (by rfl))
          · have hp2 : 1000 < o.p := by omega
            go_wp2_with (first | ((with_reducible refine at_load 33 ?_); refine wpList_load_part rfl 33 _ rfl (g9) (off9 + i * 7) rfl _ (C9) _ _ 7 (hg9) Try.underlying33 rfl (by kernel_rfl) (hn9) (X) (HX9.out) ?_) | ((with_reducible refine at_alloc 33 ?_); refine wpList_alloc_named rfl 33 rfl (zop) (by kernel_rfl) ?_) | ((with_reducible refine at_store 33 ?_); refine wpList_store_new rfl 33 _ _ rfl (X) _ _ _ rfl (by simp) rfl (by rw [HXS.out]; kernel_rfl) (by rw [HXS.out]; rfl) (HXA.out) ?_))
            exact close_round HJ.out (n - (i + 1)) (by omega) (ex_act ⟨i + 1, lb, ls, by omega, rfl, by simp, HPR.out.below hbx, HI1.out, HI2.out, below_then HB.out hbx⟩ (by rfl))
      · obtain rfl : i = n := by omega
        go_wp2_with ((go_at_call 10; (with_reducible refine (known07 _).mono ?_); rintro e w5 ⟨rfl, hb5⟩))
        go_ret
        exact ⟨rfl, below_then HB.out hb5⟩
end Go.Proofs.Ytmjfbilhalkegaa
