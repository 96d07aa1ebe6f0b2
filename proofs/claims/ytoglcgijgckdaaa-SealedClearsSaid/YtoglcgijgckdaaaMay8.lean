/- sealed.may: whether all bids may be (their numbers are kept in a map). Condition: the numbers fit their kinds. -/
import Derived.Test.YtoglcgijgckdaaaOrd8
import Derived.Test.YtoglcgijgckdaaaRowsG
import Derived.Maps.OwnOps
import Derived.Maps.Views
namespace Go.Proofs.Ytoglcgijgckdaaa
set_option linter.unusedVariables false
set_option linter.unusedSimpArgs false
open Go.RowKit Go.Maps

/-- is x the number of one of the first k? -/
def sn (L : Nat → Array Value) : Nat → Int → Bool
  | 0, _ => false
  | k + 1, x => sn L k x || decide (N (L k) 0 = x)
/-- may the first k be? -/
def smay (sells : Bool) (L : Nat → Array Value) : Nat → Bool
  | 0 => true
  | k + 1 => smay sells L k && (okO (L k) && ((Bo (L k) 2 == sells) && !sn L k (N (L k) 0)))
theorem sn_iff {L : Nat → Array Value} {x : Int} : ∀ k, sn L k x = true ↔ ∃ i, i < k ∧ N (L i) 0 = x
  | 0 => by simp [sn]
  | k + 1 => by
    rw [sn, Bool.or_eq_true, sn_iff k, decide_eq_true_iff]
    constructor
    · rintro (⟨i, h1, h2⟩ | h)
      · exact ⟨i, by omega, h2⟩
      · exact ⟨k, by omega, h⟩
    · rintro ⟨i, h1, h2⟩
      by_cases e : i = k
      · subst e; exact .inr h2
      · exact .inl ⟨i, by omega, h2⟩
theorem smay_le {sells : Bool} {L : Nat → Array Value} : ∀ n, smay sells L n = true → ∀ k, k ≤ n → smay sells L k = true
  | 0, _, k, hk => by rw [Nat.le_zero.1 hk]; rfl
  | n + 1, h, k, hk => by
    by_cases e : k = n + 1
    · subst e; exact h
    · rw [smay, Bool.and_eq_true] at h
      exact smay_le n h.1 k (by omega)
theorem smay_at {sells : Bool} {L : Nat → Array Value} {n k : Nat} (h : smay sells L n = true) (hk : k < n) : okO (L k) = true ∧ Bo (L k) 2 = sells ∧ sn L k (N (L k) 0) = false := by
  have h1 := smay_le n h (k + 1) (by omega)
  rw [smay, Bool.and_eq_true, Bool.and_eq_true, Bool.and_eq_true] at h1
  obtain ⟨_, h2, h3, h4⟩ := h1
  exact ⟨h2, by simpa using h3, by simpa using h4⟩
theorem smay_no {sells : Bool} {L : Nat → Array Value} {k : Nat} (n : Nat) (hk : k < n) (h : (okO (L k) && ((Bo (L k) 2 == sells) && !sn L k (N (L k) 0))) = false) : smay sells L n = false := by
  rw [Bool.eq_false_iff]
  intro ht
  have h1 := smay_le n ht (k + 1) (by omega)
  rw [smay, h] at h1
  simp at h1
theorem smay_iff {sells : Bool} {L : Nat → Array Value} : ∀ n, smay sells L n = true ↔ ∀ i, i < n → okO (L i) = true ∧ Bo (L i) 2 = sells ∧ ∀ j, j < i → N (L j) 0 ≠ N (L i) 0 := fun n => by
  constructor
  · intro h i hi
    obtain ⟨a, b, c⟩ := smay_at h hi
    refine ⟨a, b, fun j hj e => ?_⟩
    rw [(sn_iff i).2 ⟨j, hj, e⟩] at c
    cases c
  · intro h
    induction n with
    | zero => rfl
    | succ k ih =>
      obtain ⟨a, b, c⟩ := h k (by omega)
      have e : sn L k (N (L k) 0) = false := by
        rw [Bool.eq_false_iff]
        intro ht
        obtain ⟨j, h1, h2⟩ := (sn_iff k).1 ht
        exact c j h1 h2
      rw [smay, ih (fun i hi => h i (by omega)), a, b, e]
      simp
theorem law64 : Keyed Try.prog 28 := int_keyed Try.underlying28
theorem zeroI (w : World) : (zeroValue 3).run Try.prog w = .ok (.int .i64 0) w := by kernel_rfl
theorem lit_int {H : Type} {q : IntKind} {a b : Int} (h : (DataW.lit (.int q a) : DataW H) = .lit (.int q b)) : a = b := by injection h with h; injection h
/-- a look-up whose answer is known -/
theorem wpList_lookup_val {H : Type} {P : Program} (w : World) {ops : Array Oper} {rest : List Oper} {o : Oper} {a : Act} {Q : Exit → Act → World → Prop}
    (hgd : Region.wanted o (yielded ops a.tmps) = true) (m x : Operand) (t : TypeId) (hop : o.op = Op.lookup t m x false)
    (k e : TypeId) (q : IntKind) (K : Keyed P k) (ht : P.underlying t = some (.map k e)) (he : P.underlying e = some (.int q)) (hz : (zeroValue e).run P w = .ok (.int q 0) w) (b n : Nat) (D : DataW H)
    (hm : a.eval m = .map (some b)) (hown : w.ownsMap P k (plainElem P e) b n D) (key : Value) (kl : Lit) (hx : a.eval x = key) (hkey : keyOf P k key = some kl)
    (c : Int) (hc : D.atKey kl (.lit (.int q 0)) = .lit (.int q c)) (hK : wpList P ops Q rest (a.put o.dst (.int q c)) w) :
    wpList P ops Q (o :: rest) a w :=
  wpList_step fun K' hK' => by
    rw [if_pos hgd]
    obtain ⟨c', hrun, hat, _⟩ := hown.lookup_int K ht he hz hkey
    obtain rfl : c' = c := lit_int (hat.symm.trans hc)
    unfold Oper.wp
    simp [execOp, hop, hm, hx, hrun, Result.andThen]
    exact hK' _ _ hK
/-- the map reads as the first k numbers' set -/
def Seen (L : Nat → Array Value) (k : Nat) (D : DataW Unit) : Prop := IsMap D ∧ ∀ x : Int, D.atKey (.int .u64 x) (.lit (.int .i64 0)) = .lit (.int .i64 (if sn L k x then 1 else 0))
theorem seen_next {L : Nat → Array Value} {k : Nat} {D : DataW Unit} (h : Seen L k D) : Seen L (k + 1) (D.put (.int .u64 (N (L k) 0)) (.lit (.int .i64 1))) := by
  refine ⟨h.1.put _ _, fun x => ?_⟩
  by_cases e : N (L k) 0 = x
  · subst e
    rw [atKey_put_same h.1 (by simp [WideAt.IsKeyLit])]
    simp [sn]
  · rw [atKey_put_other (fun e2 => e (by injection e2 with _ e2; exact e2.symm)), h.2 x]
    simp [sn, e]
def zo5 : Array Value := #[.int .u64 0, .int .u32 0, .bool false, .int .i64 0, .int .i64 0]
def MapI (w : World) (b k : Nat) (D : DataW Unit) : Prop := w.ownsMap Try.prog 28 (plainElem Try.prog 3) b k D
theorem MapI.below {w w' : World} {b k : Nat} {D : DataW Unit} (h : MapI w b k D) (hb : Below w.heap.size w w') : MapI w' b k D :=
  World.ownsMap.kept (row := none) h ⟨hb.os, hb.tape, hb.output, hb.size, fun i hi _ => hb.block i hi⟩ (by simp)
set_option maxRecDepth 100000 in
set_option maxHeartbeats 2000000 in
theorem may8_any (sells : Bool) (ad : Option Addr) (n c : Nat) (L : Nat → Array Value) (w : World) (hL : ∀ i, IsOrd (L i)) (hR : RowsC w 5 ad n L) (hn : n ≤ 100000) :
    Calls Try.prog 11 #[.bool sells, .slice ad n c] w fun e w' => e = .returned (.bool (smay sells L n)) ∧ Below w.heap.size w w' := by
  have hmm := @run_makeMap Try.prog
  have HR := Lib.hid hR
  have HL := Lib.hid hL
  clear hR hL
  go_enter Try.func11, Try.ntmps11
  go_wp2
  go_loopg [11] n (fun gh i wr => ∃ (k : Nat) (D : DataW Unit), k ≤ n ∧ gh = n - k ∧ i = .int .i64 k ∧ smay sells L k = true ∧ MapI wr w.heap.size k D ∧ Seen L k D ∧ Below w.heap.size w wr)
  case atStart => exact ⟨0, .map [], by omega, by omega, rfl, rfl, World.ownsMap_made _ _ _ _, ⟨isMap_empty, fun x => rfl⟩, (Below.refl _ _).alloc (Nat.le_refl _) _⟩
  case round =>
    obtain ⟨k, D, hk, rfl, rfl, hok, hm, hs, hb⟩ := hrel
    have HOK := Lib.hid hok
    have HM := Lib.hid hm
    have HS := Lib.hid hs
    clear hok hm hs
    by_cases hlt : k < n
    · have hlti : (k : Int) < (n : Int) := by omega
      obtain ⟨g, off, A, t, fr, rfl, hgA, hszA, hexA⟩ := (HR.out.kept hb) k hlt
      have hO := HL.out k
      have HE := Lib.hid hexA
      have HZ := Lib.hid hszA
      have Hos := Lib.hid hO.size
      have Hoe := Lib.hid (extract_all hO.size)
      have Hoa := Lib.hid hO.all
      have CO := Lib.hid (fun w => omay_any (L k) w hO)
      have a0 : (L k)[0]? = some (.int .u64 (N (L k) 0)) := hO.n.1
      have a2 : (L k)[2]? = some (.bool (Bo (L k) 2)) := hO.b
      have hwf : (Lit.int .u64 (N (L k) 0)).wf = true := by
        have := hO.n.2
        simp only [Lit.wf, decide_eq_true_iff, Bool.and_eq_true]
        exact ⟨this.1, this.2⟩
      have HKEY := Lib.hid (keyOf_int_mk (P := Try.prog) Try.underlying28 hwf)
      have NO := Lib.hid (fun h => smay_no (sells := sells) (L := L) (k := k) n hlt h)
      have YES := Lib.hid (show smay sells L (k + 1) = (smay sells L k && (okO (L k) && ((Bo (L k) 2 == sells) && !sn L k (N (L k) 0)))) from rfl)
      have HV := Lib.hid (HS.out.2 (N (L k) 0))
      have HN := Lib.hid (seen_next HS.out)
      clear hexA hszA hO hwf
      generalize N (L k) 0 = num at *
      generalize okO (L k) = ok at *
      generalize sn L k num = sk at *
      generalize Bo (L k) 2 = bu at *
      cases ok
      · have hX := Lib.hid (NO.out (by simp))
        clear NO YES HV HN HS
        go_wp2_with (first | ((with_reducible refine at_load 31 ?_); refine wpList_load_part rfl 31 _ rfl (g) (off + k * 5) rfl _ (A) _ _ 5 (hgA) Try.underlying31 rfl (by kernel_rfl) (HZ.out) (L k) (HE.out) ?_) | ((with_reducible refine at_load 31 ?_); refine wpList_load_part rfl 31 _ rfl (wr.heap.size) (0) rfl _ (L k) _ _ 5 (heap_alloc_new _ _) Try.underlying31 rfl (by kernel_rfl) (by rw [Hos.out]; omega) (L k) (Hoe.out) ?_) | ((with_reducible refine at_alloc 31 ?_); refine wpList_alloc_named rfl 31 rfl (zo5) (by kernel_rfl) ?_) | ((with_reducible refine at_store 31 ?_); refine wpList_store_new rfl 31 _ _ rfl (L k) _ _ _ rfl (by simp) rfl (by rw [Hos.out]; kernel_rfl) (by rw [Hos.out]; rfl) (Hoa.out) ?_) | (go_at_call 18; (with_reducible refine (CO.out _).mono ?_); rintro e w2 ⟨rfl, hb2⟩; have hg2 := kept hb2 (heap_alloc_new _ _); have hc2 := cellF hg2; have hB2 := Lib.hid (And.intro (below_then (below_alloc hb _) hb2) ((HM.out.below (below_new _ _)).below hb2)); clear hg2)
          )
        go_ret
        exact ⟨ret_beq hX.out.symm, hB2.out.1⟩
      · by_cases hbs : bu = sells
        · subst hbs
          cases sk
          · have hX := Lib.hid (show smay bu L (k + 1) = true by rw [YES.out, HOK.out]; simp)
            clear NO YES HS
            go_wp2_with (first | ((with_reducible refine at_load 31 ?_); refine wpList_load_part rfl 31 _ rfl (g) (off + k * 5) rfl _ (A) _ _ 5 (hgA) Try.underlying31 rfl (by kernel_rfl) (HZ.out) (L k) (HE.out) ?_) | ((with_reducible refine at_load 31 ?_); refine wpList_load_part rfl 31 _ rfl (wr.heap.size) (0) rfl _ (L k) _ _ 5 (heap_alloc_new _ _) Try.underlying31 rfl (by kernel_rfl) (by rw [Hos.out]; omega) (L k) (Hoe.out) ?_) | ((with_reducible refine at_alloc 31 ?_); refine wpList_alloc_named rfl 31 rfl (zo5) (by kernel_rfl) ?_) | ((with_reducible refine at_store 31 ?_); refine wpList_store_new rfl 31 _ _ rfl (L k) _ _ _ rfl (by simp) rfl (by rw [Hos.out]; kernel_rfl) (by rw [Hos.out]; rfl) (Hoa.out) ?_) | (go_at_call 18; (with_reducible refine (CO.out _).mono ?_); rintro e w2 ⟨rfl, hb2⟩; have hg2 := kept hb2 (heap_alloc_new _ _); have hc2 := cellF hg2; have hB2 := Lib.hid (And.intro (below_then (below_alloc hb _) hb2) ((HM.out.below (below_new _ _)).below hb2)); clear hg2) | (at_lookup; refine wpList_lookup_val _ (by rfl) _ _ 47 rfl 28 3 .i64 law64 Try.underlying47 Try.underlying3 (zeroI _) w.heap.size k D rfl hB2.out.2 _ _ rfl HKEY.out 0 HV.out ?_) | (at_mapUpdate; refine wpList_mapUpdate_own _ rfl _ _ _ 47 rfl 28 3 law64 Try.underlying47 _ w.heap.size k D rfl hB2.out.2 (by unfold maxLen; omega) _ _ _ rfl rfl HKEY.out (.lit (.int .i64 1)) [] (plainElem_int Try.underlying3 (by decide)) ?_; intro w3 hm3 hg3))
            go_roundg (n - (k + 1))
            case measure => omega
            case rel => exact ⟨k + 1, _, by omega, rfl, by go_num, hX.out, hm3, HN.out, hB2.out.1.grown hg3 hB2.out.1.size (fun j hj => by cases hj; exact Nat.le_refl _)⟩
          · have hX := Lib.hid (NO.out (by simp))
            clear NO YES HN HS
            go_wp2_with (first | ((with_reducible refine at_load 31 ?_); refine wpList_load_part rfl 31 _ rfl (g) (off + k * 5) rfl _ (A) _ _ 5 (hgA) Try.underlying31 rfl (by kernel_rfl) (HZ.out) (L k) (HE.out) ?_) | ((with_reducible refine at_load 31 ?_); refine wpList_load_part rfl 31 _ rfl (wr.heap.size) (0) rfl _ (L k) _ _ 5 (heap_alloc_new _ _) Try.underlying31 rfl (by kernel_rfl) (by rw [Hos.out]; omega) (L k) (Hoe.out) ?_) | ((with_reducible refine at_alloc 31 ?_); refine wpList_alloc_named rfl 31 rfl (zo5) (by kernel_rfl) ?_) | ((with_reducible refine at_store 31 ?_); refine wpList_store_new rfl 31 _ _ rfl (L k) _ _ _ rfl (by simp) rfl (by rw [Hos.out]; kernel_rfl) (by rw [Hos.out]; rfl) (Hoa.out) ?_) | (go_at_call 18; (with_reducible refine (CO.out _).mono ?_); rintro e w2 ⟨rfl, hb2⟩; have hg2 := kept hb2 (heap_alloc_new _ _); have hc2 := cellF hg2; have hB2 := Lib.hid (And.intro (below_then (below_alloc hb _) hb2) ((HM.out.below (below_new _ _)).below hb2)); clear hg2) | (at_lookup; refine wpList_lookup_val _ (by rfl) _ _ 47 rfl 28 3 .i64 law64 Try.underlying47 Try.underlying3 (zeroI _) w.heap.size k D rfl hB2.out.2 _ _ rfl HKEY.out 1 HV.out ?_))
            go_ret
            exact ⟨ret_beq hX.out.symm, hB2.out.1⟩
        · have hX := Lib.hid (NO.out (by simp [hbs]))
          have hne : (bu != sells) = true := by simpa using hbs
          clear NO YES HV HN HS
          go_wp2_with (first | ((with_reducible refine at_load 31 ?_); refine wpList_load_part rfl 31 _ rfl (g) (off + k * 5) rfl _ (A) _ _ 5 (hgA) Try.underlying31 rfl (by kernel_rfl) (HZ.out) (L k) (HE.out) ?_) | ((with_reducible refine at_load 31 ?_); refine wpList_load_part rfl 31 _ rfl (wr.heap.size) (0) rfl _ (L k) _ _ 5 (heap_alloc_new _ _) Try.underlying31 rfl (by kernel_rfl) (by rw [Hos.out]; omega) (L k) (Hoe.out) ?_) | ((with_reducible refine at_alloc 31 ?_); refine wpList_alloc_named rfl 31 rfl (zo5) (by kernel_rfl) ?_) | ((with_reducible refine at_store 31 ?_); refine wpList_store_new rfl 31 _ _ rfl (L k) _ _ _ rfl (by simp) rfl (by rw [Hos.out]; kernel_rfl) (by rw [Hos.out]; rfl) (Hoa.out) ?_) | (go_at_call 18; (with_reducible refine (CO.out _).mono ?_); rintro e w2 ⟨rfl, hb2⟩; have hg2 := kept hb2 (heap_alloc_new _ _); have hc2 := cellF hg2; have hB2 := Lib.hid (And.intro (below_then (below_alloc hb _) hb2) ((HM.out.below (below_new _ _)).below hb2)); clear hg2)
            )
          go_ret
          exact ⟨ret_beq hX.out.symm, hB2.out.1⟩
    · obtain rfl : k = n := by omega
      go_wp2
      go_ret
      exact ⟨ret_beq HOK.out.symm, hb⟩
end Go.Proofs.Ytoglcgijgckdaaa
