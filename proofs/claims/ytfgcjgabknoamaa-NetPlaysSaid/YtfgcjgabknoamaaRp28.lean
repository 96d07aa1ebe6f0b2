/- The document's net: Purge. Condition: the net is one. -/
import Derived.Test.YtfgcjgabknoamaaRn28
import Derived.Laws.AppendOwn
namespace Go.Proofs.Ytfgcjgabknoamaa
set_option linter.unusedVariables false
set_option linter.unusedSimpArgs false
open Go.RowKit

/-- of the first j those that q keeps: how many, and which -/
def kn (q : Nat → Bool) : Nat → Nat
  | 0 => 0
  | j + 1 => if q j then kn q j + 1 else kn q j
def ka (q : Nat → Bool) : Nat → Nat → Nat
  | 0, r => r
  | j + 1, r => if q j = true ∧ r = kn q j then j else ka q j r
theorem kn_le (q : Nat → Bool) : ∀ j, kn q j ≤ j
  | 0 => Nat.le_refl _
  | j + 1 => by have := kn_le q j; unfold kn; split <;> omega
theorem ka_lt (q : Nat → Bool) : ∀ j r, r < kn q j → ka q j r < j ∧ q (ka q j r) = true
  | 0, r, h => by unfold kn at h; omega
  | j + 1, r, h => by
    unfold kn at h
    unfold ka
    by_cases hq : q j = true
    · by_cases e : r = kn q j
      · rw [if_pos ⟨hq, e⟩]; exact ⟨by omega, hq⟩
      · rw [if_neg (fun h => e h.2)]
        rw [if_pos hq] at h
        obtain ⟨h1, h2⟩ := ka_lt q j r (by omega)
        exact ⟨by omega, h2⟩
    · rw [if_neg (fun h => hq h.1)]
      rw [if_neg hq] at h
      obtain ⟨h1, h2⟩ := ka_lt q j r h
      exact ⟨by omega, h2⟩
theorem flat_keep {q : Nat → Bool} {P : Nat → Array Value} {j : Nat} (hq : q j = true) : flat (fun r => P (ka q (j + 1) r)) (kn q (j + 1)) = flat (fun r => P (ka q j r)) (kn q j) ++ (P j).toList := by
  rw [show kn q (j + 1) = kn q j + 1 by rw [kn, if_pos hq], flat]
  have e1 : ka q (j + 1) (kn q j) = j := by rw [ka, if_pos ⟨hq, rfl⟩]
  rw [e1]
  congr 1
  exact flat_congr _ (fun r hr => by
    have : ka q (j + 1) r = ka q j r := by rw [ka, if_neg (fun h => by omega)]
    rw [this])
theorem flat_pass {q : Nat → Bool} {P : Nat → Array Value} {j : Nat} (hq : q j = false) : flat (fun r => P (ka q (j + 1) r)) (kn q (j + 1)) = flat (fun r => P (ka q j r)) (kn q j) := by
  rw [show kn q (j + 1) = kn q j by rw [kn, hq]; rfl]
  exact flat_congr _ (fun r hr => by
    have : ka q (j + 1) r = ka q j r := by rw [ka, if_neg (fun h => by rw [hq] at h; cases h.1)]
    rw [this])
def kpB (who : Int) (F T : Nat → Int) (i : Nat) : Bool := decide (F i ≠ who) && decide (T i ≠ who)
theorem info_rput : ∃ i z, Try.prog.info? 65 = some i ∧ i.zero = some z ∧ i.size = 4 ∧ i.bytes ≤ 1000 ∧ z.cells.size = 4 := by
  have h : (Try.prog.info? 65).map (fun i => (i.size, decide (i.bytes ≤ 1000), i.zero.map (·.cells.size))) = some (4, true, some 4) := by kernel_rfl
  cases hi : Try.prog.info? 65 with
  | none => simp [hi] at h
  | some i =>
    simp [hi] at h
    obtain ⟨h1, h2, z, h3, h4⟩ := h
    exact ⟨i, z, rfl, h3, h1, h2, h4⟩
theorem at_append31 (T : TypeId) {P : Program} {ops : Array Oper} {Q : Exit → Act → World → Prop} {rest : List Oper} {a : Act} {w : World} {d : Option Tmp} {x y : Operand} {ty : TypeId} {pos : String} {af : Array Edge} {gd : Option (Nat × Bool)}
    (h : wpList P ops Q (⟨d, .call { callee := .builtin .append, args := #[x, y], argTypes := #[T, T] }, ty, pos, af, gd⟩ :: rest) a w) : wpList P ops Q (⟨d, .call { callee := .builtin .append, args := #[x, y], argTypes := #[T, T] }, ty, pos, af, gd⟩ :: rest) a w := h
theorem at_slice1 (T : TypeId) {P : Program} {ops : Array Oper} {Q : Exit → Act → World → Prop} {rest : List Oper} {a : Act} {w : World} {d : Option Tmp} {n : Nat} {ps : Array (Nat × Operand)} {ty : TypeId} {pos : String} {af : Array Edge} {gd : Option (Nat × Bool)}
    (h : wpList P ops Q (⟨d, .buildSlice T n ps, ty, pos, af, gd⟩ :: rest) a w) : wpList P ops Q (⟨d, .buildSlice T n ps, ty, pos, af, gd⟩ :: rest) a w := h
theorem wpList_slice4 {P : Program} {ops : Array Oper} {rest : List Oper} {o : Oper} {a : Act} {w : World} {Q : Exit → Act → World → Prop} (hgd : Region.wanted o (yielded ops a.tmps) = true) (t e : TypeId) (x : Operand) (ho : o.op = .buildSlice t 1 #[(0, x)])
    (B : Array Value) (hx : a.eval x = .agg B) (hB : B.size = 4) (ie : TypeInfo) (z : Value) (hu : P.underlying t = some (.slice e)) (hie : P.info? e = some ie) (hz : ie.zero = some z) (h4 : ie.size = 4) (hz4 : z.cells.size = 4)
    (h : wpList P ops Q rest (a.put o.dst (.slice (some ⟨w.heap.size, 0, none⟩) 1 1)) (w.alloc (.cells B e))) : wpList P ops Q (o :: rest) a w :=
  wpList_step fun K hK => by
    rw [if_pos hgd]
    exact op_slice1 t e x ho B hx hB ie z hu hie hz h4 hz4 (hK _ _ h)
/-- one put more behind the own ones -/
theorem wpList_append_put1 {ops : Array Oper} {rest : List Oper} {o : Oper} {a : Act} {w : World} {Q : Exit → Act → World → Prop} {X : Array Value} (hgd : o.guard = none) (s x : Operand)
    (ho : o.op = .call { callee := .builtin .append, args := #[s, x], argTypes := #[46, 46] }) (hX : X.size = 4) (hXa : X.all (·.oneCell') = true)
    (base : Nat) (v : Value) (n : Nat) (xs : List Value) (hs : a.eval s = v) (hown : w.ownsRow base 65 4 v n xs) (hx : a.eval x = .slice (some ⟨w.heap.size, 0, none⟩) 1 1) (hn : n ≤ 100000) (hbase : base ≤ w.heap.size)
    (h : ∀ v' w', w'.ownsRow base 65 4 v' (n + 1) (xs ++ X.toList) → (w.alloc (.cells X 65)).grownBy w' v.ownBlock → wpList Try.prog ops Q rest (a.put o.dst v') w') : wpList Try.prog ops Q (o :: rest) a (w.alloc (.cells X 65)) := by
  obtain ⟨i, z, h1, h2, h3, h4, h5⟩ := info_rput
  have hb := Nat.mul_le_mul (show n + 1 ≤ 100001 by omega) h4
  refine wpList_append_own (w.alloc (.cells X 65)) hgd s x _ ho base _ i z 4 i.bytes Try.underlying46 h1 h2 h3 rfl h5 (by omega) v n xs hs (hown.alloc _) ⟨w.heap.size, 0, none⟩ 1 1 X.toList hx (by simp [hX]) (fun j u hj => ?_) (fun u hu => ?_) (by unfold maxLen; omega) (by omega) (by simp; omega) ?_
  · have e : (⟨w.heap.size, 0, none⟩ : Addr).add j = ⟨w.heap.size, j, none⟩ := by unfold Addr.add; split <;> simp_all
    rw [e, cellF (heap_alloc_new w _)]
    simpa using hj
  · rw [Array.all_eq_true'] at hXa
    exact hXa u (by simpa using hu)
  · intro v' w' h6 h7 _
    exact h v' w' h6 h7
theorem own_weak {w : World} {b b' n c : Nat} {e : TypeId} {v : Value} {xs : List Value} (h : w.ownsRow b e c v n xs) (hb : b' ≤ b) : w.ownsRow b' e c v n xs := by
  obtain ⟨h1, h2 | ⟨g, cap, cur, h2, h3, h4⟩⟩ := h
  · exact ⟨h1, .inl h2⟩
  · exact ⟨h1, .inr ⟨g, cap, cur, h2, by omega, h4⟩⟩
theorem own_form {w : World} {base n c : Nat} {e : TypeId} {v : Value} {xs : List Value} (h : w.ownsRow base e c v n xs) : ∃ a cp, v = .slice a n cp := by
  obtain ⟨_, ⟨rfl, rfl⟩ | ⟨g, cap, cur, rfl, _⟩⟩ := h
  · exact ⟨none, 0, rfl⟩
  · exact ⟨_, _, rfl⟩
set_option maxRecDepth 100000 in
set_option maxHeartbeats 2000000 in
theorem rpurge_any {w : World} {g base k : Nat} {now : Int} {F T At : Nat → Int} {S : Nat → Value} {Ln : Nat → Nat} {X : Nat → Nat → Int} {v : Value} (who : Int) (h : RNet w g base k now F T At S Ln X v) :
    Calls Try.prog 23 #[.pointer (some ⟨g, 0, none⟩), .int .i64 who] w fun e w' => e = .returned (.int .i64 ((k : Int) - kn (kpB who F T) k)) ∧ ∃ v', RNet w' g base (kn (kpB who F T) k) now (fun r => F (ka (kpB who F T) k r)) (fun r => T (ka (kpB who F T) k r)) (fun r => At (ka (kpB who F T) k r)) (fun r => S (ka (kpB who F T) k r)) (fun r => Ln (ka (kpB who F T) k r)) (fun r => X (ka (kpB who F T) k r)) v' ∧ Below base w w' ∧ (∀ i, i ≠ g → i < w.heap.size → w'.heap[i]? = w.heap[i]?) ∧ ∀ b, v'.ownBlock = some b → w.heap.size ≤ b := by
  have hk := h.hk
  have HN := Lib.hid h
  obtain ⟨ra, rc, rfl, hR, _⟩ := own_rows (c := 4) (fun i => rfl) h.own
  have HG := Lib.hid h.row
  have HR := Lib.hid hR
  have HQ := Lib.hid (fun j => show kpB who F T j = (decide (F j ≠ who) && decide (T j ≠ who)) from rfl)
  have HKL := Lib.hid (kn_le (kpB who F T))
  have HFK := Lib.hid (fun (j : Nat) (hq : kpB who F T j = true) => flat_keep (P := fun i => p4 (F i) (T i) (S i) (At i)) hq)
  have HFP := Lib.hid (fun (j : Nat) (hq : kpB who F T j = false) => flat_pass (P := fun i => p4 (F i) (T i) (S i) (At i)) hq)
  have HKT := Lib.hid (fun (j : Nat) (hq : kpB who F T j = true) => show kn (kpB who F T) (j + 1) = kn (kpB who F T) j + 1 from by rw [kn, if_pos hq])
  have HKF := Lib.hid (fun (j : Nat) (hq : kpB who F T j = false) => show kn (kpB who F T) (j + 1) = kn (kpB who F T) j from by rw [kn, hq]; rfl)
  clear h hR
  go_enter Try.func23, Try.ntmps23
  go_wp2
  go_loopg [5, 6] k (fun gh v5 v6 wr => ∃ j : Nat, j ≤ k ∧ gh = k - j ∧ v6 = .int .i64 j ∧ wr.ownsRow w.heap.size 65 4 v5 (kn (kpB who F T) j) (flat (fun r => (fun i => p4 (F i) (T i) (S i) (At i)) (ka (kpB who F T) j r)) (kn (kpB who F T) j)) ∧ Below w.heap.size w wr)
  case atStart => exact ⟨0, by omega, by omega, rfl, World.ownsRow_nil _ _ _ _, Below.refl _ _⟩
  case round =>
    obtain ⟨j, hj, rfl, rfl, ho, hb⟩ := hrel
    have HO := Lib.hid ho
    have HB := Lib.hid hb
    have cg := cellF (Ytfgcjgabknoamaa.kept hb HG.out)
    have hkl := HKL.out j
    by_cases hjk : j < k
    · have hjki : (j : Int) < k := by omega
      obtain ⟨gb, off, A, fr, rfl, hgA, hszA, hexA⟩ := (rowsT_kept HR.out hb) j hjk
      have hex : A.extract (off + j * 4) (off + j * 4 + 4) = p4 (F j) (T j) (S j) (At j) := hexA
      have hc0 : A[off + j * 4]? = some (.int .i64 (F j)) := by
        have h := congrArg (fun B : Array Value => B[0]?) hex
        simp only [Array.getElem?_extract] at h
        rw [if_pos (by omega)] at h
        exact h
      have hc1 : A[off + j * 4 + 1]? = some (.int .i64 (T j)) := by
        have h := congrArg (fun B : Array Value => B[1]?) hex
        simp only [Array.getElem?_extract] at h
        rw [if_pos (by omega)] at h
        exact h
      have HEX := Lib.hid hex
      have ca := cellF hgA
      have hq := HQ.out j
      clear hex hexA ho hb
      by_cases hF : F j = who
      · have hqf : kpB who F T j = false := by rw [hq]; simp [hF]
        have HNX := Lib.hid (show wr.ownsRow w.heap.size 65 4 u5 (kn (kpB who F T) (j + 1)) (flat (fun r => (fun i => p4 (F i) (T i) (S i) (At i)) (ka (kpB who F T) (j + 1) r)) (kn (kpB who F T) (j + 1))) from by rw [HFP.out j hqf, HKF.out j hqf]; exact HO.out)
        rw [hF] at hc0
        clear hq hqf
        go_wp2
        go_roundg (k - (j + 1))
        case measure => omega
        case rel => exact ⟨j + 1, by omega, rfl, by go_num, HNX.out, HB.out⟩
      by_cases hT : T j = who
      · have hqf : kpB who F T j = false := by rw [hq]; simp [hT]
        have HNX := Lib.hid (show wr.ownsRow w.heap.size 65 4 u5 (kn (kpB who F T) (j + 1)) (flat (fun r => (fun i => p4 (F i) (T i) (S i) (At i)) (ka (kpB who F T) (j + 1) r)) (kn (kpB who F T) (j + 1))) from by rw [HFP.out j hqf, HKF.out j hqf]; exact HO.out)
        rw [hT] at hc1
        clear hq hqf
        generalize F j = f at *
        go_wp2
        go_roundg (k - (j + 1))
        case measure => omega
        case rel => exact ⟨j + 1, by omega, rfl, by go_num, HNX.out, HB.out⟩
      have hqt : kpB who F T j = true := by rw [hq]; simp [hF, hT]
      have HNX := Lib.hid (show ∀ (wx : World) (u : Value), wx.ownsRow w.heap.size 65 4 u (kn (kpB who F T) j + 1) (flat (fun r => (fun i => p4 (F i) (T i) (S i) (At i)) (ka (kpB who F T) j r)) (kn (kpB who F T) j) ++ (p4 (F j) (T j) (S j) (At j)).toList) → wx.ownsRow w.heap.size 65 4 u (kn (kpB who F T) (j + 1)) (flat (fun r => (fun i => p4 (F i) (T i) (S i) (At i)) (ka (kpB who F T) (j + 1) r)) (kn (kpB who F T) (j + 1))) from fun wx u h => by rw [HFK.out j hqt, HKT.out j hqt]; exact h)
      have HXS := Lib.hid (show (p4 (F j) (T j) (S j) (At j)).size = 4 from rfl)
      have HXA := Lib.hid (show (p4 (F j) (T j) (S j) (At j)).all (·.oneCell') = true from by obtain ⟨a9, n9, c9, e9⟩ := HN.out.sl j; rw [e9]; exact p4_all)
      have hF1 : (F j != who) = true := bne_iff_ne.2 hF
      have hT1 : (T j != who) = true := bne_iff_ne.2 hT
      clear hq hqt
      generalize p4 (F j) (T j) (S j) (At j) = PX at *
      generalize F j = f at *
      generalize T j = t at *
      go_wp2_with (first | ((with_reducible refine at_load 65 ?_); refine wpList_load_part rfl 65 _ rfl (gb) (off + j * 4) rfl _ (A) _ _ 4 (hgA) Try.underlying65 rfl (by kernel_rfl) (by omega) (PX) (HEX.out) ?_) | ((with_reducible refine at_slice1 46 ?_); obtain ⟨ip, zp, ip1, ip2, ip3, ip4, ip5⟩ := info_rput; refine wpList_slice4 rfl 46 65 _ rfl PX rfl HXS.out ip zp Try.underlying46 ip1 ip2 ip3 ip5 ?_; clear ip1 ip2 ip3 ip4 ip5) | ((with_reducible refine at_append31 46 ?_); refine wpList_append_put1 rfl _ _ rfl HXS.out HXA.out w.heap.size u5 (kn (kpB who F T) j) _ rfl HO.out rfl (by omega) HB.out.size ?_; intro v2 w2 ho2 hg2; have HO2 := Lib.hid (HNX.out _ _ ho2); have HB2 := Lib.hid ((below_alloc HB.out (Obj.cells PX 65)).grown hg2 (by have := HB.out.size; simp; omega) (fun j e => (HO.out.lt j e).1)); clear ho2 hg2))
      go_roundg (k - (j + 1))
      case measure => omega
      case rel => exact ⟨j + 1, by omega, rfl, by go_num, HO2.out, HB2.out⟩
    · obtain rfl : j = k := by omega
      obtain ⟨a5, c5, rfl⟩ := own_form ho
      have hgr := Ytfgcjgabknoamaa.kept hb HG.out
      have fg := (cells_of hgr).2.1
      have HGR := Lib.hid hgr
      have HKA := Lib.hid (ka_lt (kpB who F T) j)
      clear ho hb hgr
      obtain ⟨m, hm⟩ : ∃ m, m = kn (kpB who F T) j := ⟨_, rfl⟩
      rw [← hm] at HO hkl ⊢
      have HM := Lib.hid hm
      clear hm
      go_wp2
      go_ret
      have hbg := HN.out.bg
      have hgl := (Array.getElem?_eq_some_iff.1 HN.out.row).1
      rw [HM.out] at HO ⊢
      refine ⟨rfl, _, ⟨heap_set (i := 0) HGR.out, ownsRow_setCell_other (own_weak HO.out (by omega)) (fun e => ?_) _, fun i hi => ((HN.out.by_ _ (HKA.out i hi).1).kept HB.out).set HGR.out (by decide), fun i => HN.out.sl _, hbg, fun i hi => HN.out.at_ _ (HKA.out i hi).1, HN.out.hn, fun i hi => HN.out.lg _ (HKA.out i hi).1, by have := HKL.out j; omega⟩, below_set (HB.out.mono (by omega)) hbg, fun i hi hlt => ?_, fun b e => (HO.out.lt b e).1⟩
      · have h9 : w.heap.size ≤ g := (HO.out.lt _ e).1
        omega
      · rw [heap_setCell_other wr ⟨g, 0, none⟩ i _ hi]
        exact HB.out.block i hlt
end Go.Proofs.Ytfgcjgabknoamaa
