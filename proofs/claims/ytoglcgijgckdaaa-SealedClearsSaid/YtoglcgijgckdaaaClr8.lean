/- sealed.Clear: bids sorted by price, filled one behind the other. Condition: the numbers fit their kinds. -/
import Derived.Test.YtoglcgijgckdaaaMay8
import Derived.Test.YtoglcgijgckdaaaOSrtE
import Derived.Test.YtoglcgijgckdaaaClr0
import Derived.Test.YtoglcgijgckdaaaSl8
import Derived.OwnWalk
import Derived.WalkMore
namespace Go.Proofs.Ytoglcgijgckdaaa
set_option linter.unusedVariables false
set_option linter.unusedSimpArgs false
open Go.RowKit Go.Deep

set_option maxHeartbeats 1000000 in
theorem sclone_c (ra : Option Addr) (rc k : Nat) (L : Nat → Array Value) (w : World) (hL : ∀ i, IsOrd (L i)) (hR : RowsC w 5 ra k L) (hk : k ≤ 1000) (hz : ra = none → k = 0 ∧ rc = 0) :
    Calls Try.prog 12 #[.slice ra k rc] w fun e w' => ∃ v', e = .returned v' ∧ w'.ownsRow w.heap.size 31 5 v' k (flat L k) ∧ Below w.heap.size w w' := by
  have q22 : ∀ (w : World) (a : Option Addr) (n c n' c' : Nat), (binOp .eql 22 (.slice a n c) (.slice none n' c')).run Try.prog w = .ok (.bool a.isNone) w := fun w a n c n' c' => Lib.run_eql_slice_nil w _ _ a n c n' c' Try.underlying22
  cases ra with
  | none =>
    obtain ⟨rfl, rfl⟩ := hz rfl
    go_enter Try.func12, Try.ntmps12
    go_wp2
    go_ret
    exact ⟨_, rfl, World.ownsRow_nil _ _ _ _, Below.refl _ _⟩
  | some ad =>
    have HR := Lib.hid hR
    have HL := Lib.hid hL
    clear hR hL hz
    obtain ⟨i, z, h1, h2, h3, h4, h5⟩ := info_ord
    have HI := Lib.hid (And.intro h1 (And.intro h2 (And.intro h3 (And.intro h4 h5))))
    clear h1 h2 h3 h4 h5
    have hbn := below_new w (Obj.cells #[] 31)
    go_enter Try.func12, Try.ntmps12
    go_wp2_with (((with_reducible refine at_append31 22 ?_); refine wpList_append_own _ rfl _ _ _ rfl w.heap.size _ i z 5 i.bytes Try.underlying22 HI.out.1 HI.out.2.1 HI.out.2.2.1 rfl HI.out.2.2.2.2 (by omega) _ 0 [] rfl (own_empty_t w _ _) ad k rc (flat L k) rfl (flatc_len (fun i => (HL.out i).size) k) (rows_at (by omega) (fun i => (HL.out i).size) (HR.out.kept hbn)) (flatc_one (fun i => (HL.out i).all) k) (by unfold maxLen; omega) (by have := HI.out.2.2.2.1; have := Nat.mul_le_mul (show 0 + k ≤ 1000 by omega) this; omega) (by simp) ?_; intro v' w' h6 h7 _))
    rw [Nat.zero_add, List.nil_append] at h6
    go_ret
    exact ⟨_, rfl, h6, hbn.grown h7 (by simp) (fun j e => by have e : w.heap.size = j := Option.some.inj e; omega)⟩

theorem sortnil_any (fv : Value) (w : World) :
    Calls Try.prog 13 #[.slice none 0 0, fv] w fun e w' => e = .returned (.tuple #[]) ∧ Below w.heap.size w w' := by
  have ci : ∀ w, Calls Try.prog 20 #[.slice none 0 0, .int .i64 0, .int .i64 0, fv] w fun e w' => e = .returned (.tuple #[]) ∧ w = w' := fun w => by
    go_enter Try.func20, Try.ntmps20
    go_wp2
    refine wp_loop_rounds 1 ?_
    rw [rounds_succ]
    go_wp2
    (try simp only [Exit.inBlock, Exit.then]); first | go_end0 | refine bodyPost_ret (results_none rfl _ _ _) rfl ?_
    exact ⟨rfl, rfl⟩
  have cs : ∀ w, Calls Try.prog 19 #[.slice none 0 0, .int .i64 0, fv] w fun e w' => e = .returned (.tuple #[]) ∧ w = w' := fun w => by
    go_enter Try.func19, Try.ntmps19
    go_wp2
    refine wp_loop_rounds 1 ?_
    rw [rounds_succ]
    go_wp2_with ((go_at_call 20; (with_reducible refine (ci _).mono ?_); rintro e w1 ⟨rfl, rfl⟩))
    refine wp_loop_rounds 1 ?_
    rw [rounds_succ]
    go_wp2
    (try simp only [Exit.inBlock, Exit.then]); first | go_end0 | refine bodyPost_ret (results_none rfl _ _ _) rfl ?_
    exact ⟨rfl, rfl⟩
  go_enter Try.func13, Try.ntmps13
  go_wp2_with ((go_at_call 19; (with_reducible refine (cs _).mono ?_); rintro e w1 ⟨rfl, rfl⟩))
  (try simp only [Exit.inBlock, Exit.then]); first | go_end0 | refine bodyPost_ret (results_none rfl _ _ _) rfl ?_
  exact ⟨rfl, Below.refl _ _⟩
/-- may the call be? -/
def clE (sells : Bool) (Q : Int) (L : Nat → Array Value) (n : Nat) : Int := if 50 < n then 3 else if Q < 1 ∨ 10000000 < Q ∨ smay sells L n = false then 2 else 0
def vS (L : Nat → Array Value) (d : Nat → Nat) (k : Nat) : Int := N (L (d k)) 4
def fA (x y z : Int) : Array Value := #[.int .u64 x, .int .u32 y, .int .i64 z]
theorem fA_size (x y z : Int) : (fA x y z).size = 3 := rfl
theorem fA_all (x y z : Int) : (fA x y z).all (·.oneCell') = true := by simp [fA, Value.oneCell']
def fillA (Q : Int) (L : Nat → Array Value) (d : Nat → Nat) (k : Nat) : Array Value := fA (N (L (d k)) 0) (N (L (d k)) 1) (gv Q (vS L d) k)
theorem fill_size (Q : Int) (L : Nat → Array Value) (d : Nat → Nat) (k : Nat) : (fillA Q L d k).size = 3 := rfl
def prc (L : Nat → Array Value) (d : Nat → Nat) (m : Nat) : Int := if m = 0 then 0 else N (L (d (m - 1))) 3
theorem prc_next (L : Nat → Array Value) (d : Nat → Nat) (m : Nat) : prc L d (m + 1) = N (L (d m)) 3 := by unfold prc; rw [if_neg (by omega)]; rfl
/-- what Clear hands back -/
def ClrOut (sells : Bool) (Q : Int) (n : Nat) (L : Nat → Array Value) (w : World) (e : Ending) (w' : World) : Prop :=
  (clE sells Q L n ≠ 0 ∧ e = .returned (.tuple #[.int .i64 0, .slice none 0 0, .int .i64 (clE sells Q L n)])) ∨
  (clE sells Q L n = 0 ∧ ∃ d fv, PermOn 0 n id d ∧ Srt (keyS sells L) 0 n d ∧ e = .returned (.tuple #[.int .i64 (prc L d (nf Q (vS L d) n)), fv, .int .i64 0]) ∧ w'.ownsRow w.heap.size 36 3 fv (nf Q (vS L d) n) (flat (fillA Q L d) (nf Q (vS L d) n)))
theorem clE_long {sells : Bool} {Q : Int} {L : Nat → Array Value} {n : Nat} (h : 50 < n) : clE sells Q L n = 3 := if_pos h
theorem clE_bad {sells : Bool} {Q : Int} {L : Nat → Array Value} {n : Nat} (h : ¬ 50 < n) (h2 : Q < 1 ∨ 10000000 < Q ∨ smay sells L n = false) : clE sells Q L n = 2 := by unfold clE; rw [if_neg h, if_pos h2]
theorem clE_ok {sells : Bool} {Q : Int} {L : Nat → Array Value} {n : Nat} (h : ¬ 50 < n) (h1 : 1 ≤ Q) (h2 : Q ≤ 10000000) (h3 : smay sells L n = true) : clE sells Q L n = 0 := by
  unfold clE; rw [if_neg h, if_neg (by rintro (h | h | h); omega; omega; rw [h3] at h; cases h)]
theorem clE_ok_inv {sells : Bool} {Q : Int} {L : Nat → Array Value} {n : Nat} (h : clE sells Q L n = 0) : n ≤ 50 ∧ 1 ≤ Q ∧ Q ≤ 10000000 ∧ smay sells L n = true := by
  unfold clE at h
  split at h
  · omega
  · split at h
    · omega
    · rename_i h1 h2
      refine ⟨by omega, by omega, by omega, ?_⟩
      cases hs : smay sells L n
      · exact absurd (.inr (.inr hs)) h2
      · rfl
theorem info_fill : ∃ i z, Try.prog.info? 36 = some i ∧ i.zero = some z ∧ i.size = 3 ∧ i.bytes ≤ 1000 ∧ z.cells.size = 3 := by
  have h : (Try.prog.info? 36).map (fun i => (i.size, decide (i.bytes ≤ 1000), i.zero.map (·.cells.size))) = some (3, true, some 3) := by kernel_rfl
  cases hi : Try.prog.info? 36 with
  | none => simp [hi] at h
  | some i =>
    simp [hi] at h
    obtain ⟨h1, h2, z, h3, h4⟩ := h
    exact ⟨i, z, rfl, h3, h1, h2, h4⟩
def F64 (n : Int) : Prop := -9223372036854775808 ≤ n ∧ n ≤ 9223372036854775807
/-- the walk stands still here -/
structure Stop (p : Prop) : Prop where
  out : p
theorem stop_at {p : Prop} (h : Stop p) : p := h.out
theorem own_rowJ {w : World} {base n gb cap : Nat} {L : Nat → Array Value} (hL : ∀ i, IsOrd (L i)) (hn : n < 1000000000000) (h : w.ownsRow base 31 5 (.slice (some ⟨gb, 0, none⟩) n cap) n (flat L n)) : RowJ L w w gb n id := by
  refine ⟨⟨rfl, rfl, rfl, Nat.le_refl _, fun _ _ _ => rfl⟩, ?_, fun k hk => hk, hn, hL⟩
  obtain ⟨ra, rc, he, hR, _⟩ := own_rows (c := 5) (fun i => (hL i).size) h
  cases he
  obtain ⟨_, ⟨h0, _⟩ | ⟨g2, cap2, cur, h1, hbb, hgb, _⟩⟩ := id h
  · cases h0
  · cases h1
    refine ⟨cur, hgb, fun k hk => ?_⟩
    obtain ⟨g2, off, A, fr, ha, hgA, hs, hx⟩ := hR k hk
    cases ha
    rw [hgb] at hgA
    cases hgA
    rw [Nat.zero_add] at hs hx
    exact ⟨hs, hx⟩
theorem cmpAt8 {w0 : World} {gs blk n : Nat} {sells : Bool} {L : Nat → Array Value} (hL : ∀ i, IsOrd (L i)) (hok : ∀ k, k < n → okO (L k) = true) (hg : w0.heap[gs]? = some (.cells #[.bool sells] 4 (0, 0))) (hne : gs ≠ blk) : CmpAt L w0 blk n (cfS sells L) (.pointer (some ⟨gs, 0, none⟩)) := fun W hW x y hx hy => by
  have h1 := (okO_iff.1 (hok x hx)).2.2.1
  have h2 := (okO_iff.1 (hok y hy)).2.2.1
  have hgW : W.heap[gs]? = some (.cells #[.bool sells] 4 (0, 0)) := (hW.block gs (Array.getElem?_eq_some_iff.1 hg).1 (fun e => hne (Option.some.inj e))).trans hg
  exact cmpS_any sells (L x) (L y) gs W (hL x) (hL y) h1 h2 hgW
theorem kept_b {W w1 : World} (hb : Below W.heap.size W w1) {g : Nat} {o : Obj} (h : W.heap[g]? = some o) : w1.heap[g]? = some o := kept hb h
set_option maxRecDepth 100000 in
set_option maxHeartbeats 4000000 in
theorem clear_any (sells : Bool) (Q : Int) (ad : Option Addr) (n cap : Nat) (L : Nat → Array Value) (w : World) (hQ : F64 Q) (hL : ∀ i, IsOrd (L i)) (hR : RowsC w 5 ad n L) (hz : ad = none → n = 0 ∧ cap = 0) :
    Calls Try.prog 8 #[.bool sells, .int .i64 Q, .slice ad n cap] w fun e w' => ClrOut sells Q n L w e w' ∧ Below w.heap.size w w' := by
  have hb0 := below_new w (Obj.cells #[.bool sells] 4)
  have hg0 := heap_alloc_new w (Obj.cells #[.bool sells] 4)
  by_cases h50 : 50 < n
  · have h50i : (50 : Int) < n := by omega
    have HE := Lib.hid (clE_long (sells := sells) (Q := Q) (L := L) h50)
    clear hR
    go_enter Try.func8, Try.ntmps8
    go_wp2
    go_step3
    go_wp2
    (try simp only [Exit.inBlock, Exit.then])
    rw [Exit.noGoto_ret]
    go_ret3
    exact ⟨.inl ⟨by rw [HE.out]; decide, by rw [HE.out]; rfl⟩, hb0⟩
  have h50i : ¬ (50 : Int) < n := by omega
  by_cases hq1 : Q < 1
  · have HE := Lib.hid (clE_bad (sells := sells) (Q := Q) (L := L) h50 (.inl hq1))
    clear hR
    go_enter Try.func8, Try.ntmps8
    go_wp2
    go_step3
    go_wp2
    (try simp only [Exit.inBlock, Exit.then])
    rw [Exit.noGoto_ret]
    go_ret3
    exact ⟨.inl ⟨by rw [HE.out]; decide, by rw [HE.out]; rfl⟩, hb0⟩
  by_cases hq2 : 10000000 < Q
  · have HE := Lib.hid (clE_bad (sells := sells) (Q := Q) (L := L) h50 (.inr (.inl hq2)))
    clear hR
    go_enter Try.func8, Try.ntmps8
    go_wp2
    go_step3
    go_wp2
    (try simp only [Exit.inBlock, Exit.then])
    rw [Exit.noGoto_ret]
    go_ret3
    exact ⟨.inl ⟨by rw [HE.out]; decide, by rw [HE.out]; rfl⟩, hb0⟩
  have CM := may8_any sells ad n cap L _ hL (hR.kept hb0) (by omega)
  cases hsm : smay sells L n
  · have HE := Lib.hid (clE_bad (sells := sells) (Q := Q) (L := L) h50 (.inr (.inr hsm)))
    rw [hsm] at CM
    have hcg := cellF hg0
    clear hR hsm
    go_enter Try.func8, Try.ntmps8
    go_wp2
    go_step3
    go_wp2_with ((go_at_call 11; (with_reducible refine (CM).mono ?_); rintro e w1 ⟨rfl, hb1⟩))
    (try simp only [Exit.inBlock, Exit.then])
    rw [Exit.noGoto_ret]
    go_ret3
    exact ⟨.inl ⟨by rw [HE.out]; decide, by rw [HE.out]; rfl⟩, below_then hb0 hb1⟩
  have HE := Lib.hid (clE_ok (sells := sells) (Q := Q) (L := L) h50 (by omega) (by omega) hsm)
  have HOK := Lib.hid (fun k (hk : k < n) => (smay_at hsm hk).1)
  rw [hsm] at CM
  have hcg := cellF hg0
  have CC := Lib.hid (fun w1 (hb : Below w.heap.size w w1) => sclone_c ad cap n L w1 hL (hR.kept hb) (by omega) hz)
  have HL := Lib.hid hL
  have HG0 := Lib.hid hg0
  clear hR hsm hL hg0 hz
  go_enter Try.func8, Try.ntmps8
  go_wp2
  go_step3
  go_wp2_with (first | (go_at_call 11; (with_reducible refine (CM).mono ?_); rintro e w1 ⟨rfl, hb1⟩; have hb01 := below_then hb0 hb1; have hcg1 := cellF (kept hb1 HG0.out)) | (go_at_call 12; refine stop_at ?_))
  refine ⟨?_⟩
  refine (CC.out _ hb01).mono ?_
  rintro e w2 ⟨v2, rfl, ho2, hb2⟩
  have hb02 := below_then hb01 hb2
  have hg2 := kept (below_then hb1 hb2) HG0.out
  obtain ⟨_, ⟨rfl, h0⟩ | ⟨gb, cp, cur, rfl, hbb, hgb, hnc, _, hsz, _⟩⟩ := id ho2
  · subst h0
    clear ho2 CM CC HL
    go_wp2_with (first | (go_at_call 13; (with_reducible refine (sortnil_any _ _).mono ?_); rintro e w3 ⟨rfl, hb3⟩))
    go_step3
    go_wp2
    refine wp_loop_rounds 1 ?_
    rw [rounds_succ]
    go_wp2
    (try simp only [Exit.inBlock, Exit.then])
    rw [Exit.noGoto_ret]
    go_ret3
    exact ⟨.inr ⟨HE.out, id, .slice none 0 0, .refl _ _ _, fun i j h1 h2 h3 => by omega, rfl, World.ownsRow_nil _ _ _ _⟩, below_then hb02 hb3⟩
  · have HRJ := Lib.hid (own_rowJ HL.out (by omega) ho2)
    have hne : w.heap.size ≠ gb := fun e => by
      rw [← e, hg2] at hgb; injection hgb with h1; injection h1 with _ h1; exact absurd h1 (by decide)
    have cs := sorted_any L gb n cp (keyS sells L) (cfS sells L) _ w2 w2 (cfS_key sells L) (cmpAt8 HL.out HOK.out hg2 hne) HRJ.out
    clear ho2 CM CC hgb hsz
    go_wp2_with (first | (go_at_call 13; (with_reducible refine (cs).mono ?_); rintro e w3 ⟨rfl, d, hr3, hp3, hs3⟩))
    obtain ⟨t, t1, t2, t3, t4⟩ := hp3.inv
    have HD := Lib.hid t4
    have hv1 : ∀ i, i < n → 1 ≤ vS L d i ∧ vS L d i ≤ 1000000 := fun i hi => (okO_iff.1 (HOK.out _ (t4 i hi))).2.2.2
    have HV := Lib.hid (show ∀ i, i < n → 0 ≤ vS L d i from fun i hi => by have := hv1 i hi; omega)
    have HV1 := Lib.hid hv1
    have HRJ3 := Lib.hid hr3
    have HP3 := Lib.hid (And.intro hp3 hs3)
    obtain ⟨A5, hA5, hX5⟩ := hr3.row
    have HA5 := Lib.hid hA5
    have HX5 := Lib.hid hX5
    have hb03 : Below w.heap.size w w3 := ⟨hr3.fr.os.trans hb02.os, hr3.fr.tape.trans hb02.tape, hr3.fr.output.trans hb02.output, Nat.le_trans hb02.size hr3.fr.size, fun k hk => (hr3.fr.block k (Nat.lt_of_lt_of_le hk hb02.size) (fun e => by injection e with e; have := (below_then hb0 hb1).size; omega)).trans (hb02.block k hk)⟩
    have FIN := Lib.hid (show ∀ (k : Nat) (vf : Value) (wr : World), k ≤ n → wr.ownsRow w3.heap.size 36 3 vf k (flat (fillA Q L d) k) → Below w3.heap.size w3 wr → (∀ i, i < k → 0 < lft Q (vS L d) i) → (k = n ∨ lft Q (vS L d) k ≤ 0) →
        ClrOut sells Q n L w (.returned (.tuple #[.int .i64 (prc L d k), vf, .int .i64 0])) wr ∧ Below w.heap.size w wr from fun k vf wr hk ho hb hpos hend => by
      have e := nf_is (Q := Q) (v := vS L d) (j := k) (by omega) n HV.out hk hpos hend
      refine ⟨.inr ⟨HE.out, d, vf, HP3.out.1, HP3.out.2, by rw [e], ?_⟩, hb03.trans (hb.mono hb03.size)⟩
      rw [e]
      exact own_weak ho hb03.size)
    have HLB := Lib.hid (show ∀ i, i < n → 0 ≤ lft Q (vS L d) i ∧ lft Q (vS L d) i ≤ Q from fun i hi =>
      ⟨lft_pos (by omega) i (fun j hj => HV.out j (by omega)), lft_anti (Q := Q) (v := vS L d) (n := i) (k := 0) (by omega) (fun j hj => HV.out j (by omega)) (by omega)⟩)
    clear t1 t2 t3 t4 hv1 hr3 hp3 hs3 hA5 hX5 HRJ cs hg2 HG0 HOK hbb hcg hcg1 hb0 hb01 hb02 hb1 hb2 hQ
    go_step3
    go_wp2
    go_loopg [1, 6, 7, 37] n (fun gh vq vp vf vi wr => ∃ k : Nat, k ≤ n ∧ gh = n - k ∧ vi = .int .i64 k ∧ vq = .int .i64 (lft Q (vS L d) k) ∧ vp = .int .i64 (prc L d k) ∧ wr.ownsRow w3.heap.size 36 3 vf k (flat (fillA Q L d) k) ∧ Below w3.heap.size w3 wr ∧ (∀ i, i < k → 0 < lft Q (vS L d) i))
    case atStart => exact ⟨0, by omega, by omega, rfl, rfl, rfl, World.ownsRow_nil _ _ _ _, Below.refl _ _, fun i hi => by omega⟩
    case round =>
      obtain ⟨k, hk, rfl, rfl, rfl, rfl, ho, hb, hpos⟩ := hrel
      have HO := Lib.hid ho
      have HB := Lib.hid hb
      have HPOS := Lib.hid hpos
      clear ho hb hpos
      by_cases hlt : k < n
      · have hlti : (k : Int) < (n : Int) := by omega
        have hgA5 := kept_b HB.out HA5.out
        obtain ⟨x, hx⟩ : ∃ x, x = d k := ⟨_, rfl⟩
        have hXk := HX5.out k hlt
        rw [← hx] at hXk
        have HZ := Lib.hid hXk.1
        have HEX := Lib.hid hXk.2
        have hO := HL.out x
        have Hos := Lib.hid hO.size
        have Hoa := Lib.hid hO.all
        have Hoe := Lib.hid (extract_all hO.size)
        have a0 : (L x)[0]? = some (.int .u64 (N (L x) 0)) := hO.n.1
        have a1 : (L x)[1]? = some (.int .u32 (N (L x) 1)) := hO.a.1
        have a3 : (L x)[3]? = some (.int .i64 (N (L x) 3)) := hO.p.1
        have a4 : (L x)[4]? = some (.int .i64 (N (L x) 4)) := hO.l.1
        obtain ⟨l1, l2⟩ := HLB.out k hlt
        have hv := HV1.out k hlt
        have hvx : vS L d k = N (L x) 4 := by rw [hx]; rfl
        rw [hvx] at hv
        have HNX := Lib.hid (show lft Q (vS L d) (k + 1) = lft Q (vS L d) k - min (lft Q (vS L d) k) (N (L x) 4) from by rw [lft, hvx])
        have HPR := Lib.hid (show prc L d (k + 1) = N (L x) 3 from by rw [prc_next, hx])
        have HFL := Lib.hid (show flat (fillA Q L d) (k + 1) = flat (fillA Q L d) k ++ (fA (N (L x) 0) (N (L x) 1) (min (lft Q (vS L d) k) (N (L x) 4))).toList from by rw [flat, fillA, ← hx, gv, hvx])
        have HLQ := Lib.hid (show ∀ z, z = lft Q (vS L d) k → 0 < z → ∀ i, i < k + 1 → 0 < lft Q (vS L d) i from fun z hz h1 i hi => by
          by_cases e : i = k
          · subst e; omega
          · exact HPOS.out i (by omega))
        have HEND := Lib.hid (fun (wr : World) (vf : Value) (ho : wr.ownsRow w3.heap.size 36 3 vf k (flat (fillA Q L d) k)) (hb : Below w3.heap.size w3 wr) (hl : lft Q (vS L d) k ≤ 0) => FIN.out k vf wr hk ho hb HPOS.out (.inr hl))
        clear hXk hO hvx hx HPOS FIN
        generalize hlq : lft Q (vS L d) k = lq at *
        have HLQ2 := Lib.hid hlq
        clear hlq
        generalize N (L x) 4 = vv at *
        generalize N (L x) 3 = pp at *
        generalize N (L x) 0 = nn at *
        generalize N (L x) 1 = aa at *
        by_cases h0 : lq = 0
        · have hl0 : lq ≤ 0 := by omega
          subst h0
          have hvp : (0 : Int) < vv := by omega
          have HF := Lib.hid (HEND.out _ _ ((HO.out.alloc (Obj.cells (L x) 31))) (below_alloc HB.out _) hl0)
          clear HEND HLQ HFL HNX
          go_wp2_with (first | ((with_reducible refine at_load 31 ?_); refine wpList_load_part rfl 31 _ rfl (gb) (k * 5) rfl _ (A5) _ _ 5 (hgA5) Try.underlying31 rfl (by kernel_rfl) (HZ.out) (L x) (HEX.out) ?_) | ((with_reducible refine at_alloc 31 ?_); refine wpList_alloc_named rfl 31 rfl (zo5) (by kernel_rfl) ?_) | ((with_reducible refine at_store 31 ?_); refine wpList_store_new rfl 31 _ _ rfl (L x) _ _ _ rfl (by simp) rfl (by rw [Hos.out]; kernel_rfl) (by rw [Hos.out]; rfl) (Hoa.out) ?_)
            )
          (try simp only [Exit.inBlock, Exit.then])
          rw [Exit.noGoto_ret]
          go_ret3
          exact HF.out
        · have hlp : 0 < lq := by omega
          clear HEND
          rcases Int.lt_trichotomy lq vv with hc | hc | hc
          · have hmin : min lq vv = lq := by omega
            rw [hmin] at HNX HFL
            have hw : lq - lq = 0 := by omega
            have hge : (lq == 0) = false := by rw [beq_eq_false_iff_ne]; omega
            have HW := Lib.hid hw
            clear hmin hw
            go_wp2_with (first | ((with_reducible refine at_load 31 ?_); refine wpList_load_part rfl 31 _ rfl (gb) (k * 5) rfl _ (A5) _ _ 5 (hgA5) Try.underlying31 rfl (by kernel_rfl) (HZ.out) (L x) (HEX.out) ?_) | ((with_reducible refine at_alloc 31 ?_); refine wpList_alloc_named rfl 31 rfl (zo5) (by kernel_rfl) ?_) | ((with_reducible refine at_store 31 ?_); refine wpList_store_new rfl 31 _ _ rfl (L x) _ _ _ rfl (by simp) rfl (by rw [Hos.out]; kernel_rfl) (by rw [Hos.out]; rfl) (Hoa.out) ?_) | ((with_reducible refine at_build 36 ?_); refine wpList_build_named rfl 36 _ rfl (fA nn aa lq) (by kernel_rfl) ?_) | ((with_reducible refine at_slice1 24 ?_); obtain ⟨ip, zp, ip1, ip2, ip3, ip4, ip5⟩ := info_fill; refine wpList_slice1c rfl 24 36 _ rfl (fA nn aa lq) 3 rfl (fA_size _ _ _) ip zp Try.underlying24 ip1 ip2 ip3 ip5 (by omega) (by omega) ?_; clear ip1 ip2 ip3 ip4 ip5) | ((with_reducible refine at_append31 24 ?_); refine wpList_append_row1 rfl _ _ rfl Try.underlying24 info_fill (by omega) (fA_size _ _ _) (fA_all _ _ _) w3.heap.size _ k _ rfl (HO.out.alloc _) rfl (by omega) (by have := HB.out.size; simp; omega) ?_; intro v8 w8 ho8 hg8 hq8; replace ho8 := Lib.hid ho8; replace hg8 := Lib.hid hg8; replace hq8 := Lib.hid hq8))
            go_roundg (n - (k + 1))
            case measure => omega
            case rel => exact ⟨k + 1, by omega, rfl, by go_num, by rw [HNX.out, HW.out], by rw [HPR.out], by rw [HFL.out]; exact ho8.out, (below_alloc (below_alloc HB.out _) _).grown hg8.out (by have := HB.out.size; simp; omega) hq8.out, HLQ.out lq rfl hlp⟩
          · subst hc
            have hmin : min lq lq = lq := by omega
            rw [hmin] at HNX HFL
            have hw : lq - lq = 0 := by omega
            have hge : (lq == 0) = false := by rw [beq_eq_false_iff_ne]; omega
            have HW := Lib.hid hw
            clear hmin hw
            go_wp2_with (first | ((with_reducible refine at_load 31 ?_); refine wpList_load_part rfl 31 _ rfl (gb) (k * 5) rfl _ (A5) _ _ 5 (hgA5) Try.underlying31 rfl (by kernel_rfl) (HZ.out) (L x) (HEX.out) ?_) | ((with_reducible refine at_alloc 31 ?_); refine wpList_alloc_named rfl 31 rfl (zo5) (by kernel_rfl) ?_) | ((with_reducible refine at_store 31 ?_); refine wpList_store_new rfl 31 _ _ rfl (L x) _ _ _ rfl (by simp) rfl (by rw [Hos.out]; kernel_rfl) (by rw [Hos.out]; rfl) (Hoa.out) ?_) | ((with_reducible refine at_build 36 ?_); refine wpList_build_named rfl 36 _ rfl (fA nn aa lq) (by kernel_rfl) ?_) | ((with_reducible refine at_slice1 24 ?_); obtain ⟨ip, zp, ip1, ip2, ip3, ip4, ip5⟩ := info_fill; refine wpList_slice1c rfl 24 36 _ rfl (fA nn aa lq) 3 rfl (fA_size _ _ _) ip zp Try.underlying24 ip1 ip2 ip3 ip5 (by omega) (by omega) ?_; clear ip1 ip2 ip3 ip4 ip5) | ((with_reducible refine at_append31 24 ?_); refine wpList_append_row1 rfl _ _ rfl Try.underlying24 info_fill (by omega) (fA_size _ _ _) (fA_all _ _ _) w3.heap.size _ k _ rfl (HO.out.alloc _) rfl (by omega) (by have := HB.out.size; simp; omega) ?_; intro v8 w8 ho8 hg8 hq8; replace ho8 := Lib.hid ho8; replace hg8 := Lib.hid hg8; replace hq8 := Lib.hid hq8))
            go_roundg (n - (k + 1))
            case measure => omega
            case rel => exact ⟨k + 1, by omega, rfl, by go_num, by rw [HNX.out, HW.out], by rw [HPR.out], by rw [HFL.out]; exact ho8.out, (below_alloc (below_alloc HB.out _) _).grown hg8.out (by have := HB.out.size; simp; omega) hq8.out, HLQ.out lq rfl hlp⟩
          · have hmin : min lq vv = vv := by omega
            rw [hmin] at HNX HFL
            have hge : (vv == 0) = false := by rw [beq_eq_false_iff_ne]; omega
            clear hmin
            go_wp2_with (first | ((with_reducible refine at_load 31 ?_); refine wpList_load_part rfl 31 _ rfl (gb) (k * 5) rfl _ (A5) _ _ 5 (hgA5) Try.underlying31 rfl (by kernel_rfl) (HZ.out) (L x) (HEX.out) ?_) | ((with_reducible refine at_alloc 31 ?_); refine wpList_alloc_named rfl 31 rfl (zo5) (by kernel_rfl) ?_) | ((with_reducible refine at_store 31 ?_); refine wpList_store_new rfl 31 _ _ rfl (L x) _ _ _ rfl (by simp) rfl (by rw [Hos.out]; kernel_rfl) (by rw [Hos.out]; rfl) (Hoa.out) ?_) | ((with_reducible refine at_build 36 ?_); refine wpList_build_named rfl 36 _ rfl (fA nn aa vv) (by kernel_rfl) ?_) | ((with_reducible refine at_slice1 24 ?_); obtain ⟨ip, zp, ip1, ip2, ip3, ip4, ip5⟩ := info_fill; refine wpList_slice1c rfl 24 36 _ rfl (fA nn aa vv) 3 rfl (fA_size _ _ _) ip zp Try.underlying24 ip1 ip2 ip3 ip5 (by omega) (by omega) ?_; clear ip1 ip2 ip3 ip4 ip5) | ((with_reducible refine at_append31 24 ?_); refine wpList_append_row1 rfl _ _ rfl Try.underlying24 info_fill (by omega) (fA_size _ _ _) (fA_all _ _ _) w3.heap.size _ k _ rfl (HO.out.alloc _) rfl (by omega) (by have := HB.out.size; simp; omega) ?_; intro v8 w8 ho8 hg8 hq8; replace ho8 := Lib.hid ho8; replace hg8 := Lib.hid hg8; replace hq8 := Lib.hid hq8))
            go_roundg (n - (k + 1))
            case measure => omega
            case rel => exact ⟨k + 1, by omega, rfl, by go_num, by rw [HNX.out], by rw [HPR.out], by rw [HFL.out]; exact ho8.out, (below_alloc (below_alloc HB.out _) _).grown hg8.out (by have := HB.out.size; simp; omega) hq8.out, HLQ.out lq rfl hlp⟩
      · obtain rfl : k = n := by omega
        go_wp2
        (try simp only [Exit.inBlock, Exit.then])
        rw [Exit.noGoto_ret]
        go_ret3
        exact FIN.out k _ wr (Nat.le_refl _) HO.out HB.out HPOS.out (.inl rfl)
end Go.Proofs.Ytoglcgijgckdaaa
