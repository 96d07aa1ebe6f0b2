/- net's Purge. Condition: the net is one. -/
import Derived.Test.YtfgcjgabknoamaaPgI28
import Derived.Test.YtfgcjgabknoamaaKg
import Derived.Maps.OwnIn
import Derived.RangeFuncBox
namespace Go.Proofs.Ytfgcjgabknoamaa
set_option linter.unusedVariables false
set_option linter.unusedSimpArgs false
open Go.RowKit Go.Shelf
attribute [local go_sem] Oper.semAt_some

theorem ownFrom_cell {α : Type} {B : Nat} {b : Nat} {c : Array Value} {t : TypeId} {fr : Nat × Nat} : OwnFrom B (fun (_ : α) W => W.heap[b]? = some (.cells c t fr)) := fun j W W' row h hg hr =>
  (hg.block b (Array.getElem?_eq_some_iff.1 h).1 (fun e => by
    obtain ⟨_, o, h2, h3⟩ := hr b e.symm
    rw [h] at h2
    cases h2
    simp [Obj.isCells] at h3)).trans h
theorem wpIn_lit {F : Fence} {n : Nat} {P : Program} {c : Code} {Q : Exit → Act → World → Prop} {a t : Array Value} {ds : List Deferred} {w : World} (h : a = t) (hh : c.wpIn F n P Q ⟨t, ds⟩ w) : c.wpIn F n P Q ⟨a, ds⟩ w := by rw [h]; exact hh
theorem wp_gen {P : Program} {c : Code} {Q : Exit → Act → World → Prop} {T : Array Value} {ds : List Deferred} {w : World} (lit : (Nat → Value) → Array Value) (hT : T = lit (fun i => T.getD i undef)) (h : ∀ u, c.wp P Q ⟨lit u, ds⟩ w) : c.wp P Q ⟨T, ds⟩ w := by rw [hT]; exact h _
section
variable {P : Program} {F : Fence} {n : Nat} {ops : Array Oper} {rest : List Oper} {o : Oper} {a : Act} {w : World} {Q : Exit → Act → World → Prop}
theorem at_slice1In (T : TypeId) {d : Option Tmp} {m : Nat} {ps : Array (Nat × Operand)} {ty : TypeId} {pos : String} {af : Array Edge} {gd : Option (Nat × Bool)}
    (h : wpListIn F n P ops Q (⟨d, .buildSlice T m ps, ty, pos, af, gd⟩ :: rest) a w) : wpListIn F n P ops Q (⟨d, .buildSlice T m ps, ty, pos, af, gd⟩ :: rest) a w := h
theorem at_appendIn (T : TypeId) {d : Option Tmp} {xs : Array Operand} {ts : Array TypeId} {ty : TypeId} {pos : String} {af : Array Edge} {gd : Option (Nat × Bool)}
    (h : wpListIn F n P ops Q (⟨d, .call { callee := .builtin .append, args := xs, argTypes := ts }, ty, pos, af, gd⟩ :: rest) a w) : wpListIn F n P ops Q (⟨d, .call { callee := .builtin .append, args := xs, argTypes := ts }, ty, pos, af, gd⟩ :: rest) a w := h
theorem wpListIn_slice4 (hgd : Region.wanted o (yielded ops a.tmps) = true) (t e : TypeId) (x : Operand) (ho : o.op = .buildSlice t 1 #[(0, x)])
    (B : Array Value) (hx : a.eval x = .agg B) (hB : B.size = 4) (ie : TypeInfo) (z : Value) (hu : P.underlying t = some (.slice e)) (hie : P.info? e = some ie) (hz : ie.zero = some z) (h4 : ie.size = 4) (hz4 : z.cells.size = 4)
    (h : wpListIn F n P ops Q rest (a.put o.dst (.slice (some ⟨w.heap.size, 0, none⟩) 1 1)) (w.alloc (.cells B e))) : wpListIn F n P ops Q (o :: rest) a w :=
  wpListIn_step fun K hK => by
    rw [if_pos hgd]
    refine wpIn_of_run (by simp [ho]) (by unfold Oper.about; rw [ho]) (v := .slice (some ⟨w.heap.size, 0, none⟩) 1 1) (w1 := w.alloc (.cells B e)) (.inl ?_) (hK _ _ h)
    have hf : Instr.fill (fun i => some (i * ie.size, ie.size)) ((Array.range (1 * ie.size)).map (z.cells[· % z.cells.size]!)) ((#[(0, x)] : Array (Nat × Operand)).map fun (i, x) => (i, a.eval x)).toList = some B := by
      have e1 : ((#[(0, x)] : Array (Nat × Operand)).map fun (i, x) => (i, a.eval x)).toList = [(0, Value.agg B)] := by rw [← hx]; simp
      rw [e1, h4]
      exact fill_put hB hz4
    unfold execOp
    simp only [ho, Sem.run_bind, run_buildSlice w t e 1 _ B ie z hu hie hz (by rw [h4]; omega) (by rw [h4]; omega) hf, Result.andThen_ok]
    rfl
end
/-- one put more behind the own ones, inside a fence -/
theorem wpListIn_append_put1 {F : Fence} {nF : Nat} {ops : Array Oper} {rest : List Oper} {o : Oper} {a : Act} {w : World} {Q : Exit → Act → World → Prop} {X : Array Value} (hgd : o.guard = none) (s x : Operand)
    (ho : o.op = .call { callee := .builtin .append, args := #[s, x], argTypes := #[54, 54] }) (hX : X.size = 4) (hXa : X.all (·.oneCell') = true)
    (base : Nat) (v : Value) (n : Nat) (xs : List Value) (hs : a.eval s = v) (hown : w.ownsRow base 60 4 v n xs) (hx : a.eval x = .slice (some ⟨w.heap.size, 0, none⟩) 1 1) (hn : n ≤ 1000000) (hbase : base ≤ w.heap.size)
    (h : ∀ v' w', w'.ownsRow base 60 4 v' (n + 1) (xs ++ X.toList) → (w.alloc (.cells X 60)).grownBy w' v.ownBlock → (v'.ownBlock = v.ownBlock ∨ v'.ownBlock = some (w.heap.size + 1)) → wpListIn F nF Try.prog ops Q rest (a.put o.dst v') w') : wpListIn F nF Try.prog ops Q (o :: rest) a (w.alloc (.cells X 60)) := by
  obtain ⟨i, z, h1, h2, h3, h4, h5⟩ := info_put
  have hb := Nat.mul_le_mul (show n + 1 ≤ 1000001 by omega) h4
  refine wpListIn_append_own_at (w := w.alloc (.cells X 60)) hgd s x _ ho base _ i z 4 i.bytes Try.underlying54 h1 h2 h3 rfl h5 (by omega) v n xs hs (hown.alloc _) ⟨w.heap.size, 0, none⟩ 1 1 X.toList hx (by simp [hX]) (fun j u hj => ?_) (fun u hu => ?_) (by unfold maxLen; omega) (by omega) (by simp; omega) ?_
  · have e : (⟨w.heap.size, 0, none⟩ : Addr).add j = ⟨w.heap.size, j, none⟩ := by unfold Addr.add; split <;> simp_all
    rw [e, cellF (heap_alloc_new w (.cells X 60))]
    simpa using hj
  · rw [Array.all_eq_true'] at hXa
    exact hXa u (by simpa using hu)
  · exact fun v' w' h6 h7 _ h8 => h v' w' h6 h7 (by simpa using h8)
/-- what the rounds have kept -/
def WasN (w3 : World) (K : Nat → Array Value) (p : Nat × Option Nat) (W : World) : Prop := (∃ v, Boxed W w3.heap.size 54 v ∧ W.ownsRow w3.heap.size 60 4 v p.1 (flat K p.1) ∧ v.ownBlock = p.2) ∧ Below w3.heap.size w3 W
theorem wasN_from {w3 : World} {K : Nat → Array Value} {B : Nat} (hB : w3.heap.size ≤ B) : OwnFrom B (WasN w3 K) := fun p W W' row ⟨h1, h2⟩ hg hr =>
  ⟨holdsRow_own w3.heap.size w3.heap.size _ _ 4 (fun p : Nat × Option Nat => p.1) (fun p => flat K p.1) (fun p v => v.ownBlock = p.2) p W W' row h1 hg (fun r e => (hr r e).2), h2.grown hg h2.size (fun r e => by have := (hr r e).1; omega)⟩
theorem wasN_next {w3 W W1 : World} {K : Nat → Array Value} {j : Nat} {r : Option Nat} {s : Nat} {v v' : Value} (hv : Boxed W w3.heap.size 54 v) (hrow : W.ownsRow w3.heap.size 60 4 v j (flat K j)) (hr : v.ownBlock = r) (hb : Below w3.heap.size w3 W) (hs : w3.heap.size < s)
    (ho : W1.ownsRow w3.heap.size 60 4 v' (j + 1) (flat K j ++ (K j).toList)) (hg : (W.alloc (.cells (K j) 60)).grownBy W1 v.ownBlock) (hat : v'.ownBlock = v.ownBlock ∨ v'.ownBlock = some (W.heap.size + 1)) :
    Boxed W1 w3.heap.size 54 v ∧ KeepsOthers W (W1.setCell ⟨w3.heap.size, 0, none⟩ v') ∧ (∃ r', KnR s r W (W1.setCell ⟨w3.heap.size, 0, none⟩ v') ∧ RowTo W r r' ∧ WasN w3 K (j + 1, r') (W1.setCell ⟨w3.heap.size, 0, none⟩ v')) ∧
    ∀ i A t fr, W.heap[i]? = some (Obj.cells A t fr) → t ≠ 60 → i ≠ w3.heap.size → (W1.setCell ⟨w3.heap.size, 0, none⟩ v').heap[i]? = some (Obj.cells A t fr) := by
  obtain ⟨a1, a2, a3, a4, a5⟩ := hv.appended (by decide) hrow hb.size (Nat.le_refl _) ho hg
  refine ⟨a1, a4, ⟨v'.ownBlock, ?_, ?_, ⟨⟨v', a2, ?_, rfl⟩, hb.trans a5⟩⟩, fun i A t fr hi ht hne => ?_⟩
  · subst hr
    exact (KnR.trans (knR_grown (s := s) (World.grownBy_alloc W _ v.ownBlock)) (knR_grown hg)).trans (Kn.toR (kn_set (g := w3.heap.size) hs (fun i hi => heap_setCell_other W1 _ i _ hi)))
  · rcases hat with e | e
    · exact .inl (e.trans hr)
    · exact .inr ⟨_, e, by omega⟩
  · exact a3
  · rw [heap_setCell_other W1 ⟨w3.heap.size, 0, none⟩ i _ hne, hg.block i (by have := (Array.getElem?_eq_some_iff.1 hi).1; simp; omega) (fun e => ?_)]
    · exact heap_up hi
    · obtain ⟨A9, f9, h9⟩ := own_tag hrow i e.symm
      rw [h9] at hi; injection hi with hi; injection hi with _ hi; exact ht hi.symm
theorem others_any (g : Nat) (who : Int) (w : World) :
    Calls Try.prog 33 #[.pointer (some ⟨g, 0, none⟩), .int .i64 who] w fun e w' => e = .returned (.func (.func 35) #[] #[.pointer (some ⟨w.heap.size, 0, none⟩), .pointer (some ⟨w.heap.size + 1, 0, none⟩)]) ∧ w' = (w.alloc (.cells #[.pointer (some ⟨g, 0, none⟩)] 26)).alloc (.cells #[.int .i64 who] 3) := by
  have hmf : ∀ (fn : Fn) (first cap : Array Value) (w : World), (Instr.makeFunc fn first cap).run Try.prog w = .ok (.func fn first cap) w := fun _ _ _ _ => rfl
  go_enter Try.func33, Try.ntmps33
  go_wp2
  go_ret
  exact ⟨rfl, rfl⟩
theorem purge_fin {w w4 : World} {g base k m D : Nat} {F T Ag : Nat → Int} {S : Nat → Value} {Ln : Nat → Nat} {X : Nat → Nat → Int} {v : Value} {I : Nat → Nat} (hN : NetIs w g base k F T Ag S Ln X) (hb : Below w.heap.size w w4) (hI : ∀ r, r < m → I r < k) (hm : m ≤ k)
    (ho : w4.ownsRow w.heap.size 60 4 v m (flat (fun r => p4 (F (I r)) (T (I r)) (S (I r)) (Ag (I r))) m)) (hD : w4.heap[D]? = some (.deferred (some []))) (hDl : w.heap.size ≤ D) :
    NetIs ((w4.setCell ⟨g, 0, none⟩ v).putObj D (.deferred none)) g base m (fun r => F (I r)) (fun r => T (I r)) (fun r => Ag (I r)) (fun r => S (I r)) (fun r => Ln (I r)) (fun r => X (I r)) ∧ Below base w ((w4.setCell ⟨g, 0, none⟩ v).putObj D (.deferred none)) ∧ Kp w ((w4.setCell ⟨g, 0, none⟩ v).putObj D (.deferred none)) := by
  obtain ⟨v0, hg, _⟩ := hN.row
  have hgl := (Array.getElem?_eq_some_iff.1 hg).1
  have hbg := hN.bg
  have hg4 := Ytfgcjgabknoamaa.kept hb hg
  have hne : D ≠ g := by omega
  have hD2 := heap_set_other (g := g) (i := 0) (v := v) hD hne
  have hput : ∀ (b : Nat) (A : Array Value) (t : TypeId) (fr : Nat × Nat), (w4.setCell ⟨g, 0, none⟩ v).heap[b]? = some (Obj.cells A t fr) → ((w4.setCell ⟨g, 0, none⟩ v).putObj D (.deferred none)).heap[b]? = some (Obj.cells A t fr) := fun b A t fr h =>
    put_other hD2 h (fun e => by subst e; rw [hD2] at h; cases h)
  have ho1 : (w4.setCell ⟨g, 0, none⟩ v).ownsRow base 60 4 v m (flat (fun r => p4 (F (I r)) (T (I r)) (S (I r)) (Ag (I r))) m) :=
    ownsRow_setCell_other (own_weak ho (by omega)) (fun e => by have h9 : w.heap.size ≤ g := (ho.lt _ e).1; omega) _
  refine ⟨⟨⟨v, hput _ _ _ _ (heap_set (i := 0) (v := v) hg4), ?_⟩, fun i hi => ?_, fun i => hN.sl _, hbg, fun i hi => hN.ag _ (hI i hi), fun i hi => hN.lg _ (hI i hi), by have := hN.hk; omega⟩, ?_, ?_⟩
  · obtain ⟨a1, a2 | ⟨gx, cap, cur, p1, p2, p3, p4'⟩⟩ := ho1
    · exact ⟨a1, .inl a2⟩
    · exact ⟨a1, .inr ⟨gx, cap, cur, p1, p2, hput _ _ _ _ p3, p4'⟩⟩
  · exact (((hN.by_ _ (hI i hi)).kept hb).set (g := g) (i := 0) (u := v) hg4 (by decide)).apart (fun b A fr h => (hput b A _ fr h).trans h.symm)
  · exact below_put (below_set (hb.mono (by omega)) hbg) (by omega) hD2 (by omega)
  · exact fun b A t fr h q1 q2 => hput _ _ _ _ ((Kp.below hb).trans (Kp.set hg4 (.inl rfl)) b A t fr h q1 q2)
set_option maxRecDepth 100000 in
set_option maxHeartbeats 4000000 in
theorem purge_any (g base k : Nat) (F T Ag : Nat → Int) (S : Nat → Value) (Ln : Nat → Nat) (X : Nat → Nat → Int) (who : Int) (w : World) (hN : NetIs w g base k F T Ag S Ln X) :
    Calls Try.prog 22 #[.pointer (some ⟨g, 0, none⟩), .int .i64 who] w fun e w' => e = .returned (.int .i64 ((k : Int) - kn (kpB who F T) k)) ∧ NetIs w' g base (kn (kpB who F T) k) (fun r => F (ka (kpB who F T) k r)) (fun r => T (ka (kpB who F T) k r)) (fun r => Ag (ka (kpB who F T) k r)) (fun r => S (ka (kpB who F T) k r)) (fun r => Ln (ka (kpB who F T) k r)) (fun r => X (ka (kpB who F T) k r)) ∧ Below base w w' ∧ Kp w w' := by
  have hne : ∀ (w : World) (g : Nat), (binOp .eql 26 (.pointer (some ⟨g, 0, none⟩)) (.pointer none)).run Try.prog w = .ok (.bool false) w := fun _ _ => by kernel_rfl
  obtain ⟨v, hg, hrow⟩ := hN.row
  obtain ⟨ra, rc, rfl, hR, hkr, _⟩ := own_rows (c := 4) (fun i => rfl) hrow
  have HN := Lib.hid hN
  have hk2 := hN.hk
  have hgl := (Array.getElem?_eq_some_iff.1 hg).1
  have hbg := hN.bg
  have HG := Lib.hid hg
  have HR := Lib.hid hR
  clear hN hrow hR
  refine calls_marks Try.func22 rfl ?_
  simp only [Try.ntmps22, List.size_toArray, List.length_cons, List.length_nil, Nat.reduceAdd, Nat.reduceSub, Array.replicate_succ, Array.replicate_zero, List.push_toArray, List.append_toArray, List.nil_append, List.cons_append]
  go_wp2_with ((go_at_call 33; (with_reducible refine (others_any g who _).mono ?_); rintro e w1 ⟨rfl, hw1⟩))
  refine wp_gen (fun u => #[.pointer (some ⟨g, 0, none⟩), .int .i64 who, u 2, u 3, u 4, .pointer (some ⟨w.heap.size, 0, none⟩), u 6, u 7, u 8, u 9, u 10, u 11, .func (.func 35) #[] #[.pointer (some ⟨w.heap.size + 1, 0, none⟩), .pointer (some ⟨w.heap.size + 1 + 1, 0, none⟩)], u 13, u 14, u 15, u 16, u 17, u 18, u 19, u 20, u 21, u 22, u 23, u 24, u 25, u 26, u 27, u 28, u 29, u 30]) (by rfl) (fun u => ?_)
  obtain ⟨w6, hw6⟩ : ∃ w6, w6 = (((w.alloc (Obj.cells #[Value.slice none 0 0] 54)).alloc (Obj.cells #[Value.pointer (some ⟨g, 0, none⟩)] 26)).alloc (Obj.cells #[Value.int IntKind.i64 who] 3)) := ⟨_, rfl⟩
  have hB6 : Below w.heap.size w w6 := by rw [hw6]; exact below_alloc (below_alloc (below_new _ _) _) _
  have m9 : Boxed w6 w.heap.size 54 (.slice none 0 0) := by rw [hw6]; exact heap_up (heap_up (heap_alloc_new _ _))
  have mb : w6.heap[w.heap.size + 1]? = some (.cells #[.pointer (some ⟨g, 0, none⟩)] 26 (0, 0)) := by
    rw [hw6]
    have := heap_up (o := Obj.cells #[Value.int IntKind.i64 who] 3) (heap_alloc_new (w.alloc (Obj.cells #[Value.slice none 0 0] 54)) (Obj.cells #[Value.pointer (some ⟨g, 0, none⟩)] 26))
    simpa using this
  have mw : w6.heap[w.heap.size + 1 + 1]? = some (.cells #[.int .i64 who] 3 (0, 0)) := by
    rw [hw6]
    have := heap_alloc_new ((w.alloc (Obj.cells #[Value.slice none 0 0] 54)).alloc (Obj.cells #[Value.pointer (some ⟨g, 0, none⟩)] 26)) (Obj.cells #[Value.int IntKind.i64 who] 3)
    simpa using this
  have hz6 : w6.heap.size = w.heap.size + 3 := by rw [hw6]; simp
  rw [← hw6]
  clear hw6
  obtain ⟨K, hKe⟩ : ∃ K : Nat → Array Value, K = fun r => (fun i => p4 (F i) (T i) (S i) (Ag i)) (ka (kpB who F T) k r) := ⟨_, rfl⟩
  have HKS := Lib.hid (fun r => show (K r).size = 4 from by rw [hKe]; rfl)
  have HKA := Lib.hid (fun r => show (K r).all (·.oneCell') = true from by rw [hKe]; obtain ⟨a9, n9, c9, e9⟩ := HN.out.sl (ka (kpB who F T) k r); show (p4 _ _ (S _) _).all _ = true; rw [e9]; exact p4_all)
  have hit : SeqZ Try.prog 35 #[.pointer (some ⟨w.heap.size + 1, 0, none⟩), .pointer (some ⟨w.heap.size + 1 + 1, 0, none⟩)] (fun j => #[.agg (K j)]) (kn (kpB who F T) k) w6.heap.size (Zn (w.heap.size + 1) (w.heap.size + 1 + 1) g who ra rc k (fun i => p4 (F i) (T i) (S i) (Ag i))) w6 := by
    rw [hKe]
    exact fun l J Jx W hW hJ hJx hZ hY h0 => others1_in W l J Jx hJ hJx hZ hY HN.out.sl hk2 h0
  have HKE := Lib.hid hKe
  have hkl := kn_le (kpB who F T) k
  have HKL := Lib.hid (ka_lt (kpB who F T) k)
  obtain ⟨m, hm⟩ : ∃ m, m = kn (kpB who F T) k := ⟨_, rfl⟩
  rw [← hm] at hit hkl HKL
  have HM := Lib.hid hm
  clear hKe hm
  refine range_roundsZ (gf := 35) (lb := #[.pointer (some ⟨w.heap.size + 1, 0, none⟩), .pointer (some ⟨w.heap.size + 1 + 1, 0, none⟩)]) (encs := fun j => #[.agg (K j)]) (k := m) rfl (enters_of Try.func35 (by kernel_rfl) rfl) (fun _ => rfl) hit
    (fun p W => (WasN w K p W ∧ W.heap[w.heap.size + 1]? = some (.cells #[.pointer (some ⟨g, 0, none⟩)] 26 (0, 0))) ∧ W.heap[w.heap.size + 1 + 1]? = some (.cells #[.int .i64 who] 3 (0, 0))) (fun c j W => False) ?oI ?oX ?hZ ?i0 (fun j W => W.alloc (.cells (K j) 60)) (fun j W => World.grownBy_alloc W _ none)
    (fun j W0 => { tmps := #[.pointer (some ⟨g, 0, none⟩), .int .i64 who, u 2, u 3, u 4, .pointer (some ⟨w.heap.size, 0, none⟩), .pointer (some ⟨W0.heap.size, 0, none⟩), u 7, u 8, u 9, u 10, u 11, .func (.func 35) #[] #[.pointer (some ⟨w.heap.size + 1, 0, none⟩), .pointer (some ⟨w.heap.size + 1 + 1, 0, none⟩)], .agg (K j), u 14, u 15, u 16, u 17, u 18, u 19, u 20, u 21, u 22, u 23, u 24, u 25, u 26, u 27, u 28, u 29, u 30], defers := [] }) ?assign ?body ?done ?stop
  case oI => exact OwnFrom.and (OwnFrom.and (wasN_from (by omega)) ownFrom_cell) ownFrom_cell
  case oX => exact fun _ _ _ _ _ h => h.elim
  case hZ => exact fun p W ⟨⟨h1, h2⟩, h3⟩ => ⟨h2, h3, Ytfgcjgabknoamaa.kept h1.2 HG.out, rowsT_kept HR.out h1.2⟩
  case i0 => exact ⟨⟨⟨⟨_, m9, World.ownsRow_nil _ _ _ _, rfl⟩, hB6⟩, mb⟩, mw⟩
  case stop => exact fun _ _ _ _ _ _ h _ => h.elim
  case assign =>
    intro l i W K' hj hK
    have hsz := HKS.out i
    have hall := HKA.out i
    refine wpIn_lit (t := #[.pointer (some ⟨g, 0, none⟩), .int .i64 who, u 2, u 3, u 4, .pointer (some ⟨w.heap.size, 0, none⟩), u 6, u 7, u 8, u 9, u 10, u 11, .func (.func 35) #[] #[.pointer (some ⟨w.heap.size + 1, 0, none⟩), .pointer (some ⟨w.heap.size + 1 + 1, 0, none⟩)], .agg (K i), u 14, u 15, u 16, u 17, u 18, u 19, u 20, u 21, u 22, u 23, u 24, u 25, u 26, u 27, u 28, u 29, u 30]) (by simp) ?_
    gi_wp2_with (first | ((with_reducible refine at_allocIn 60 ?_); refine wpListIn_alloc_named rfl 60 rfl (pz0) (by kernel_rfl) ?_) | ((with_reducible refine at_storeIn 60 ?_); refine wpListIn_store_new rfl 60 _ _ rfl (K i) _ _ _ rfl (by simp) rfl (by rw [hsz]; kernel_rfl) (by rw [hsz]; rfl) (hall) ?_))
    exact hK
  case body =>
    rintro l i r W0 W hj ⟨⟨⟨⟨v, hbox, hrow, hown⟩, hB⟩, hmb⟩, hmw⟩ hsW hup _
    have hv := hup _ _ _ _ (heap_alloc_new W0 (Obj.cells (K i) 60))
    have HNX := Lib.hid (fun (v' : Value) (W1 : World) => wasN_next (s := w.heap.size + 3) (v' := v') (W1 := W1) hbox hrow hown hB (by omega))
    have hcell := hbox.cell
    have hrow0 := Lib.hid hrow
    have HBs := Lib.hid hB.size
    have hsz := HKS.out i
    have hex : (K i).extract 0 (0 + 4) = K i := by rw [show 0 + 4 = (K i).size by rw [hsz]]; simp
    have hvs : 0 + 4 ≤ (K i).size := by omega
    have HSZ := Lib.hid hsz
    have HALL := Lib.hid (HKA.out i)
    have HMB := Lib.hid (And.intro hmb hmw)
    clear hbox hrow hown hB hsz hup hmb hmw hit
    refine wpIn_block ?_
    gi_wp2_with (first | ((with_reducible refine at_loadIn 60 ?_); refine wpListIn_load_part rfl 60 _ rfl (W0.heap.size) (0) rfl _ (K i) _ _ 4 (hv) Try.underlying60 rfl (by kernel_rfl) (hvs) (K i) (hex) ?_) | ((with_reducible refine at_slice1In 54 ?_); obtain ⟨ip, zp, ip1, ip2, ip3, ip4, ip5⟩ := info_put; refine wpListIn_slice4 rfl 54 60 _ rfl (K i) rfl HSZ.out ip zp Try.underlying54 ip1 ip2 ip3 ip5 ?_; clear ip1 ip2 ip3 ip4 ip5) | ((with_reducible refine at_appendIn 54 ?_); refine wpListIn_append_put1 rfl _ _ rfl HSZ.out HALL.out w.heap.size v i _ rfl hrow0.out rfl (by omega) HBs.out ?_; intro v1 W1 ho1 hg1 hat1; obtain ⟨g9, c9, rfl⟩ := ownsRow_succ ho1; (have hN1 := HNX.out _ W1 ho1 hg1 hat1); (have c9 := hN1.1.cell); (have f9 := hN1.1.frozen); (have HN1 := Lib.hid hN1.2); clear ho1 hg1 hat1 hN1))
    obtain ⟨q1, ⟨r', q2, q3, q4⟩, q5⟩ := HN1.out
    exact ⟨q1, r', q2, q3, ⟨⟨q4, q5 _ _ _ _ HMB.out.1 (by decide) (by omega)⟩, q5 _ _ _ _ HMB.out.2 (by decide) (by omega)⟩⟩
  case done =>
    rintro D r W hD ⟨⟨⟨⟨v, hbox, hrow, hown⟩, hB⟩, _⟩, _⟩ hK
    obtain ⟨a5, c5, rfl⟩ := own_form hrow
    have hDw : w.heap.size ≤ D := by omega
    have hwr : IntKind.i64.wrap ((k : Int) - m) = k - m := by
      unfold IntKind.wrap
      simp [IntKind.signed, IntKind.bits]
      omega
    have HBX := Lib.hid hbox
    have HOW := Lib.hid hrow
    have HBW := Lib.hid hB
    have HKD := Lib.hid hK
    have HGW := Lib.hid (Ytfgcjgabknoamaa.kept hB HG.out)
    clear hbox hrow hB hK hit HKS HKA m9 mb mw hB6 hz6 HR HG
    go_wp2_with fail
    refine wp_region_below (by kernel_rfl) (by kernel_rfl) ?_
    repeat (first | ((with_reducible apply q_skip); (case hw => rfl); (try simp only [Act.put, List.setIfInBounds_toArray, List.set_cons_zero, List.set_cons_succ])) | ((with_reducible apply q_val); (case hw => rfl); (case hv => intro wq hbq; have hcL := cellF (Ytfgcjgabknoamaa.kept hbq HGW.out); have hcB := cellF (Ytfgcjgabknoamaa.kept hbq HBX.out); go_simp; try rfl); (try simp only [Act.put, List.setIfInBounds_toArray, List.set_cons_zero, List.set_cons_succ])))
    refine q_nil ?_
    intro w4 hb4
    have hg4 := Ytfgcjgabknoamaa.kept hb4 HGW.out
    have hcL := cellF hg4
    have hfL := (cells_of hg4).2.1
    have hcB := cellF (Ytfgcjgabknoamaa.kept hb4 HBX.out)
    have hK4 := Ytfgcjgabknoamaa.kept hb4 HKD.out
    have hpf := purge_fin HN.out (below_then HBW.out hb4) (fun r hr => (HKL.out r hr).1) hkl (by have h := own_below hb4 HOW.out; rw [HKE.out] at h; exact h) hK4 hDw
    have HPF := Lib.hid hpf
    have hz := heap_set_other (g := g) (i := 0) (v := .slice a5 m c5) hK4 (by omega)
    clear hpf hK4 hg4
    go_wp2_with fail
    refine leaves_cons hz ?_
    rw [← HM.out]
    refine leaves_nil (v := .int .i64 ((k : Int) - m)) ?_ ⟨rfl, HPF.out⟩
    simp [results, Try.f22, go_sem, hwr]
end Go.Proofs.Ytfgcjgabknoamaa
