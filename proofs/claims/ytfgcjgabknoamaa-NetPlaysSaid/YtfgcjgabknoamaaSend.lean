/- net's Send. Condition: the net is one, the bytes can be read. -/
import Derived.Test.YtfgcjgabknoamaaClone
namespace Go.Proofs.Ytfgcjgabknoamaa
set_option linter.unusedVariables false
set_option linter.unusedSimpArgs false
open Go.RowKit

def p4 (f t : Int) (v : Value) (ag : Int) : Array Value := #[.int .i64 f, .int .i64 t, v, .int .u64 ag]
/-- a net: its variable, its row of puts, their bytes -/
structure NetIs (w : World) (g base k : Nat) (F T Ag : Nat → Int) (S : Nat → Value) (Ln : Nat → Nat) (X : Nat → Nat → Int) : Prop where
  row : ∃ v, w.heap[g]? = some (.cells #[v] 56 (0, 0)) ∧ w.ownsRow base 60 4 v k (flat (fun i => p4 (F i) (T i) (S i) (Ag i)) k)
  by_ : ∀ i, i < k → BytT w (S i) (Ln i) (X i)
  sl : ∀ i, ∃ a n c, S i = .slice a n c
  bg : base ≤ g
  ag : ∀ i, i < k → 0 ≤ Ag i ∧ Ag i ≤ 18446744073709551615
  lg : ∀ i, i < k → Ln i ≤ 1048576
  hk : k ≤ 2000
theorem info_put : ∃ i z, Try.prog.info? 60 = some i ∧ i.zero = some z ∧ i.size = 4 ∧ i.bytes ≤ 64 ∧ z.cells.size = 4 := by
  have h : (Try.prog.info? 60).map (fun i => (i.size, decide (i.bytes ≤ 64), i.zero.map (·.cells.size))) = some (4, true, some 4) := by kernel_rfl
  cases hi : Try.prog.info? 60 with
  | none => simp [hi] at h
  | some i =>
    simp [hi] at h
    obtain ⟨h1, h2, z, h3, h4⟩ := h
    exact ⟨i, z, rfl, h3, h1, h2, h4⟩

theorem op_call {P : Program} {o : Oper} {a : Act} {w : World} {K : Act → World → Prop} {Q : Exit → Act → World → Prop} (f : FuncId) (args : Array Value) (he : (execOp a.eval o).run P w = .ok (.enter f args) w) (R : Value → World → Prop)
    (hc : Calls P f args w fun e w' => ∃ v, e = .returned v ∧ R v w') (h : ∀ v w', R v w' → K (a.put o.dst v) w') : o.wp P a w K Q := by
  unfold Oper.wp
  rw [he]
  exact hc.mono fun e w'' ⟨v, he, hr⟩ => by subst he; exact h v w'' hr
theorem p4_all {f t ag : Int} {a : Option Addr} {n c : Nat} : (p4 f t (.slice a n c) ag).all (·.oneCell') = true := all_one fun i v hv => by
  have hi : i < 4 := (Array.getElem?_eq_some_iff.1 hv).1
  have : i = 0 ∨ i = 1 ∨ i = 2 ∨ i = 3 := by omega
  rcases this with rfl | rfl | rfl | rfl <;> (cases hv; rfl)
theorem fold_set : ∀ (l : List Value) (k : Nat) (cs : Array Value), k + l.length ≤ cs.size →
    ((l.zipIdx k).foldl (fun cs x => cs.setIfInBounds (0 + x.2) x.1) cs).size = cs.size ∧
    ∀ i, ((l.zipIdx k).foldl (fun cs x => cs.setIfInBounds (0 + x.2) x.1) cs)[i]? = if k ≤ i ∧ i < k + l.length then l[i - k]? else cs[i]?
  | [], k, cs, _ => by
    refine ⟨rfl, fun i => ?_⟩
    simp
    omega
  | v :: l, k, cs, h => by
    simp only [List.length_cons] at h
    simp only [List.zipIdx_cons, List.foldl_cons]
    obtain ⟨h1, h2⟩ := fold_set l (k + 1) (cs.setIfInBounds (0 + k) v) (by simp; omega)
    refine ⟨by rw [h1]; simp, fun i => ?_⟩
    rw [h2 i]
    by_cases e : i = k
    · subst e
      rw [if_neg (by omega), if_pos (by simp), Nat.zero_add, Array.getElem?_setIfInBounds_self_of_lt (by omega)]
      simp
    · by_cases e2 : k + 1 ≤ i ∧ i < k + 1 + l.length
      · rw [if_pos e2, if_pos (by simp; omega), show i - k = (i - (k + 1)) + 1 by omega, List.getElem?_cons_succ]
      · rw [if_neg e2, if_neg (by simp; omega), Array.getElem?_setIfInBounds_ne (by omega)]
theorem fill_put {B : Array Value} {z : Array Value} (hB : B.size = 4) (hz : z.size = 4) :
    Instr.fill (fun i => some (i * 4, 4)) ((Array.range (1 * 4)).map (z[· % z.size]!)) [(0, Value.agg B)] = some B := by
  unfold Instr.fill
  simp only [Value.cells, hB]
  rw [if_neg (by simp)]
  unfold Instr.fill
  congr 1
  have h := fold_set B.toList 0 ((Array.range (1 * 4)).map (z[· % z.size]!)) (by simp [hB])
  have e : Array.foldl (fun cs x => cs.setIfInBounds (0 * 4 + x.2) x.1) ((Array.range (1 * 4)).map (z[· % z.size]!)) (B.zipIdx) = (B.toList.zipIdx 0).foldl (fun cs x => cs.setIfInBounds (0 + x.2) x.1) ((Array.range (1 * 4)).map (z[· % z.size]!)) := by
    rw [← Array.foldl_toList]
    simp
  show Array.foldl (fun cs x => cs.setIfInBounds (0 * 4 + x.2) x.1) ((Array.range (1 * 4)).map (z[· % z.size]!)) (B.zipIdx) = B
  rw [e]
  apply Array.ext_getElem?
  intro i
  rw [h.2 i]
  by_cases hi : i < 4
  · rw [if_pos (by simp [hB]; omega)]; simp
  · rw [if_neg (by simp [hB]; omega), Array.getElem?_eq_none_iff.2 (by simp; omega), Array.getElem?_eq_none_iff.2 (by omega)]
theorem exec_build {P : Program} {o : Oper} {a : Act} {w : World} (t : TypeId) (parts : Array (Nat × Operand)) (ho : o.op = .build t parts) (B : Array Value) (h : P.built t (parts.map fun (i, x) => (i, a.eval x)).toList = some B) : (execOp a.eval o).run P w = .ok (.value (.agg B)) w := by
  unfold execOp
  simp only [ho, Sem.run_bind, run_build w t _ B h, Sem.run_pure, Result.andThen_ok]
theorem BytT.grown {w w1 : World} {v : Value} {n : Nat} {X : Nat → Int} {row : Option Nat} (h : BytT w v n X) (hg : w.grownBy w1 row) (hr : ∀ g, row = some g → ∃ A fr, w.heap[g]? = some (.cells A 60 fr)) : BytT w1 v n X := by
  obtain ⟨a, c, h1, h2, h3, h4, h5⟩ := h
  refine ⟨a, c, h1, h2, h3, h4, ?_⟩
  rcases h5 with h5 | ⟨g, A, fr, h5, h6, h7⟩
  · exact .inl h5
  · refine .inr ⟨g, A, fr, h5, ?_, h7⟩
    rw [hg.block g (Array.getElem?_eq_some_iff.1 h6).1 (fun e => ?_)]
    · exact h6
    · obtain ⟨A2, fr2, h8⟩ := hr g e.symm
      rw [h8] at h6
      injection h6 with h6
      injection h6 with _ h9
      exact absurd h9 (by decide)
theorem BytT.set {w : World} {v u : Value} {n g i : Nat} {X : Nat → Int} {A : Array Value} {t : TypeId} {fr : Nat × Nat} (h : BytT w v n X) (hg : w.heap[g]? = some (.cells A t fr)) (ht : t ≠ 5) : BytT (w.setCell ⟨g, i, none⟩ u) v n X := by
  obtain ⟨a, c, h1, h2, h3, h4, h5⟩ := h
  refine ⟨a, c, h1, h2, h3, h4, ?_⟩
  rcases h5 with h5 | ⟨g2, A2, fr2, h5, h6, h7⟩
  · exact .inl h5
  · refine .inr ⟨g2, A2, fr2, h5, heap_set_other h6 (fun e => ?_), h7⟩
    subst e
    rw [hg] at h6
    injection h6 with h6
    injection h6 with _ h9
    exact ht h9
theorem flat_upd {F T Ag : Nat → Int} {S : Nat → Value} {k : Nat} {f t ag : Int} {s : Value} : flat (fun i => p4 (if i = k then f else F i) (if i = k then t else T i) (if i = k then s else S i) (if i = k then ag else Ag i)) (k + 1) = flat (fun i => p4 (F i) (T i) (S i) (Ag i)) k ++ (p4 f t s ag).toList := by
  rw [flat, flat_congr (L' := fun i => p4 (F i) (T i) (S i) (Ag i)) k (fun i hi => by rw [if_neg (by omega), if_neg (by omega), if_neg (by omega), if_neg (by omega)])]
  simp
theorem op_slice1 {P : Program} {o : Oper} {a : Act} {w : World} {K : Act → World → Prop} {Q : Exit → Act → World → Prop} (t e : TypeId) (x : Operand) (ho : o.op = .buildSlice t 1 #[(0, x)])
    (B : Array Value) (hx : a.eval x = .agg B) (hB : B.size = 4) (ie : TypeInfo) (z : Value) (hu : P.underlying t = some (.slice e)) (hie : P.info? e = some ie) (hz : ie.zero = some z) (h4 : ie.size = 4) (hz4 : z.cells.size = 4)
    (h : K (a.put o.dst (.slice (some ⟨w.heap.size, 0, none⟩) 1 1)) (w.alloc (.cells B e))) : o.wp P a w K Q :=
  wp_buildSlice t e 1 _ ho B ie z hu hie hz (by omega) (by omega) (by
    have e1 : ((#[(0, x)] : Array (Nat × Operand)).map fun (i, x) => (i, a.eval x)).toList = [(0, Value.agg B)] := by rw [← hx]; simp
    rw [e1, h4]
    exact fill_put hB hz4) h
/-- blocks that are neither a net nor a row of puts are as they were -/
def Kp (w w' : World) : Prop := ∀ (b : Nat) (A : Array Value) (t : TypeId) (fr : Nat × Nat), w.heap[b]? = some (Obj.cells A t fr) → t ≠ 56 → t ≠ 60 → w'.heap[b]? = some (Obj.cells A t fr)
theorem Kp.refl (w : World) : Kp w w := fun _ _ _ _ h _ _ => h
theorem Kp.trans {w w1 w2 : World} (h : Kp w w1) (h2 : Kp w1 w2) : Kp w w2 := fun b A t fr hb q1 q2 => h2 b A t fr (h b A t fr hb q1 q2) q1 q2
theorem Kp.below {w w1 : World} (h : Below w.heap.size w w1) : Kp w w1 := fun b A t fr hb _ _ => Ytfgcjgabknoamaa.kept h hb
theorem Kp.set {w : World} {g i : Nat} {A : Array Value} {t : TypeId} {fr : Nat × Nat} {v : Value} (hg : w.heap[g]? = some (Obj.cells A t fr)) (ht : t = 56 ∨ t = 60) : Kp w (w.setCell ⟨g, i, none⟩ v) := fun b B u fr2 hb q1 q2 =>
  heap_set_other hb (fun e => by subst e; rw [hg] at hb; injection hb with hb; injection hb with _ hb; rcases ht with h | h <;> simp_all)
theorem Kp.grown {w w1 : World} {row : Option Nat} (hg : w.grownBy w1 row) (hr : ∀ g, row = some g → ∃ A fr, w.heap[g]? = some (Obj.cells A 60 fr)) : Kp w w1 := fun b B u fr2 hb q1 q2 =>
  (hg.block b (Array.getElem?_eq_some_iff.1 hb).1 (fun e => by
    obtain ⟨A, fr, h⟩ := hr b e.symm
    rw [hb] at h; injection h with h; injection h with _ h; exact q2 h)).trans hb
theorem net_grown {w w1 w5 : World} {g base k : Nat} {F T Ag : Nat → Int} {S : Nat → Value} {Ln : Nat → Nat} {X : Nat → Nat → Int} {f t : Int} {n sc rc rc5 : Nat} {Y : Nat → Int} {sa ra ra5 : Option Addr}
    (hN : NetIs w g base k F T Ag S Ln X) (hnl : n ≤ 1048576) (hk : k < 2000) (hB : Below w.heap.size w w1)
    (hoq : w1.ownsRow base 60 4 (.slice ra k rc) k (flat (fun i => p4 (F i) (T i) (S i) (Ag i)) k)) (hv : BytT w1 (.slice sa n sc) n Y)
    (hg5 : (w1.alloc (Obj.cells (p4 f t (.slice sa n sc) 0) 60)).grownBy w5 (Value.slice ra k rc).ownBlock)
    (ho5 : w5.ownsRow base 60 4 (.slice ra5 (k + 1) rc5) (k + 1) (flat (fun i => p4 (F i) (T i) (S i) (Ag i)) k ++ (p4 f t (.slice sa n sc) 0).toList))
    (hgq5 : w5.heap[g]? = some (.cells #[.slice ra k rc] 56 (0, 0))) :
    NetIs (w5.setCell ⟨g, 0, none⟩ (.slice ra5 (k + 1) rc5)) g base (k + 1) (fun i => if i = k then f else F i) (fun i => if i = k then t else T i) (fun i => if i = k then 0 else Ag i) (fun i => if i = k then .slice sa n sc else S i) (fun i => if i = k then n else Ln i) (fun i => if i = k then Y else X i) ∧ Below base w (w5.setCell ⟨g, 0, none⟩ (.slice ra5 (k + 1) rc5)) ∧ Kp w (w5.setCell ⟨g, 0, none⟩ (.slice ra5 (k + 1) rc5)) := by
  have htag : ∀ gr, (Value.slice ra k rc).ownBlock = some gr → ∃ A fr, (w1.alloc (Obj.cells (p4 f t (.slice sa n sc) 0) 60)).heap[gr]? = some (.cells A 60 fr) := fun gr e => by
    obtain ⟨A, fr, h⟩ := own_tag hoq gr e
    exact ⟨A, fr, heap_up h⟩
  have hup : ∀ v m Z, BytT w1 v m Z → BytT (w5.setCell ⟨g, 0, none⟩ (.slice ra5 (k + 1) rc5)) v m Z := fun v m Z h =>
    ((h.kept (below_new w1 _)).grown hg5 htag).set hgq5 (by decide)
  refine ⟨⟨⟨_, heap_set (i := 0) (v := .slice ra5 (k + 1) rc5) hgq5, ?_⟩, fun i hi => ?_, fun i => ?_, hN.bg, fun i hi => ?_, fun i hi => ?_, by omega⟩, ?_, (((Kp.below hB).trans (Kp.below (below_new w1 _))).trans (Kp.grown hg5 htag)).trans (Kp.set hgq5 (.inl rfl))⟩
  · rw [flat_upd]
    refine ownsRow_setCell_other ho5 (fun e => ?_) _
    obtain ⟨A, fr, h⟩ := own_tag ho5 _ e
    rw [show w5.heap[(⟨g, 0, none⟩ : Addr).block]? = w5.heap[g]? from rfl, hgq5] at h
    injection h with h; injection h with _ h; exact absurd h (by decide)
  · by_cases e : i = k
    · simp only [e, if_pos rfl]
      exact hup _ _ _ hv
    · rw [if_neg e, if_neg e, if_neg e]
      exact hup _ _ _ ((hN.by_ i (by omega)).kept hB)
  · by_cases e : i = k
    · rw [if_pos e]; exact ⟨_, _, _, rfl⟩
    · rw [if_neg e]; exact hN.sl i
  · show 0 ≤ (if i = k then (0 : Int) else Ag i) ∧ (if i = k then (0 : Int) else Ag i) ≤ 18446744073709551615
    by_cases e : i = k
    · rw [if_pos e]; omega
    · rw [if_neg e]; exact hN.ag i (by omega)
  · show (if i = k then n else Ln i) ≤ 1048576
    by_cases e : i = k
    · rw [if_pos e]; omega
    · rw [if_neg e]; exact hN.lg i (by omega)
  · have h1 : Below base w w1 := ⟨hB.1, hB.2, hB.3, hB.size, fun j hj => hB.block j (by have := hN.bg; obtain ⟨v, h, _⟩ := hN.row; have := (Array.getElem?_eq_some_iff.1 h).1; omega)⟩
    have hbs : base ≤ w1.heap.size := by have := hN.bg; obtain ⟨v, h, _⟩ := hN.row; have := (Array.getElem?_eq_some_iff.1 h).1; have := hB.size; omega
    have h2 : Below base w (w1.alloc (Obj.cells (p4 f t (.slice sa n sc) 0) 60)) := h1.alloc hbs _
    refine below_set (h2.grown hg5 ?_ (fun j e => ?_)) hN.bg
    · have := hN.bg; obtain ⟨v, h, _⟩ := hN.row; have := (Array.getElem?_eq_some_iff.1 h).1; have := hB.size; simp; omega
    · have := (hoq.lt j e).1; omega
set_option maxRecDepth 100000 in
set_option maxHeartbeats 40000000 in
theorem send_kp (g base k : Nat) (F T Ag : Nat → Int) (S : Nat → Value) (Ln : Nat → Nat) (X : Nat → Nat → Int) (f t : Int) (a : Option Addr) (n c : Nat) (Y : Nat → Int) (w : World) (hN : NetIs w g base k F T Ag S Ln X) (hY : Byt w a n Y) (hz : a = none → n = 0 ∧ c = 0) (hn : n ≤ 1048576) (hk : k < 2000) :
    Calls Try.prog 9 #[.pointer (some ⟨g, 0, none⟩), .agg (m3 f t (.slice a n c))] w fun e w' => (∃ s : Value, e = .returned (.int .i64 0) ∧ NetIs w' g base (k + 1) (fun i => if i = k then f else F i) (fun i => if i = k then t else T i) (fun i => if i = k then 0 else Ag i) (fun i => if i = k then s else S i) (fun i => if i = k then n else Ln i) (fun i => if i = k then Y else X i)) ∧ Below base w w' ∧ Kp w w' := by
  obtain ⟨v, hg, hrow⟩ := hN.row
  obtain ⟨ra, rc, rfl, _⟩ := own_rows (c := 4) (fun i => rfl) hrow
  have HN := Lib.hid hN
  have CO := Lib.hid (fun wx (hx : Byt wx a n Y) => own_any f t a n c Y wx hx (by omega) hz)
  have HMs := Lib.hid (show (m3 f t (.slice a n c)).size = 3 from rfl)
  have HME := Lib.hid (extract_all HMs.out)
  have hbg := hN.bg
  have hoq := hrow.alloc (Obj.cells (m3 f t (.slice a n c)) 24)
  have hgq := heap_up (o := Obj.cells (m3 f t (.slice a n c)) 24) hg
  have hMq := heap_alloc_new w (Obj.cells (m3 f t (.slice a n c)) 24)
  have hYq := hY.kept (below_new w (Obj.cells (m3 f t (.slice a n c)) 24))
  have hBq := below_new w (Obj.cells (m3 f t (.slice a n c)) 24)
  have hgw : g < w.heap.size := (Array.getElem?_eq_some_iff.1 hg).1
  have hHN := hN.by_
  clear hN
  have h2 : (m3 f t (.slice a n c))[2]? = some (.slice a n c) := rfl
  have cg := cellF hg
  have cg1 := cellF (heap_up (o := Obj.cells (m3 f t (.slice a n c)) 24) hg)
  generalize m3 f t (.slice a n c) = M at *
  go_enter Try.func9, Try.ntmps9
  go_wp2
  refine wp_region_any (by kernel_rfl) ?_
  change wpAny _ _ _ _ _ _ _ (World.drew _)
  obtain ⟨wq, hwq⟩ : ∃ wq, wq = (w.alloc (Obj.cells M 24)).drew := ⟨_, rfl⟩
  have hoq1 : wq.ownsRow base 60 4 (.slice ra k rc) k (flat (fun i => p4 (F i) (T i) (S i) (Ag i)) k) := by rw [hwq]; exact hoq.drew
  have hgq1 : wq.heap[g]? = some (.cells #[.slice ra k rc] 56 (0, 0)) := by rw [hwq]; exact hgq
  have hMq1 : wq.heap[w.heap.size]? = some (.cells M 24 (0, 0)) := by rw [hwq]; exact hMq
  have hYq1 : Byt wq a n Y := by rw [hwq]; exact hYq
  have hBq1 : Below w.heap.size w wq := by rw [hwq]; exact Below.drew hBq
  rw [← hwq]
  clear hoq hgq hMq hYq hBq hwq cg cg1
  have hoq := hoq1
  have hgq := hgq1
  have hMq := hMq1
  have hYq := hYq1
  have hBq := hBq1
  clear hoq1 hgq1 hMq1 hYq1 hBq1
  refine wpAny_take (i := 0) (v := ?_) rfl (by kernel_rfl) (by kernel_rfl) (by kernel_rfl) (fun _ _ _ h => h) (Or.inl ⟨by rfl, ?tk0⟩) ?_
  case tk0 => (intro wt; go_simp; try with_reducible rfl)
  (try simp only [Act.put, List.setIfInBounds_toArray, List.set_cons_zero, List.set_cons_succ])
  refine wpAny_take (i := 1) (v := ?_) rfl (by kernel_rfl) (by kernel_rfl) (by kernel_rfl) (fun _ _ _ h => h) (Or.inl ⟨by rfl, ?tk1⟩) ?_
  case tk1 => (intro wt; go_simp; try with_reducible rfl)
  (try simp only [Act.put, List.setIfInBounds_toArray, List.set_cons_zero, List.set_cons_succ])
  refine wpAny_take (i := 2) (v := ?_) rfl (by kernel_rfl) (by kernel_rfl) (by kernel_rfl) (fun _ _ _ h => h) (Or.inl ⟨by rfl, ?tk2⟩) ?_
  case tk2 => (intro wt; go_simp; try with_reducible rfl)
  (try simp only [Act.put, List.setIfInBounds_toArray, List.set_cons_zero, List.set_cons_succ])
  refine wpAny_take (i := 3) (v := ?_) rfl (by kernel_rfl) (by kernel_rfl) (by kernel_rfl) (fun _ _ _ h => h) (Or.inl ⟨by rfl, ?tk3⟩) ?_
  case tk3 => (intro wt; go_simp; try with_reducible rfl)
  (try simp only [Act.put, List.setIfInBounds_toArray, List.set_cons_zero, List.set_cons_succ])
  refine wpAny_ready (rs := [4, 5]) (by kernel_rfl) (by decide) ?_
  refine AllReady.cons rfl (fun K' hK => ?_) (AllReady.cons rfl (fun K' hK => ?_) AllReady.nil)
  · have cgA := cellF hgq
    go_simp
    refine hK _ _ ?_
    clear hK K' cgA
    refine wpAny_ready (rs := [5]) (by kernel_rfl) (by decide) ?_
    refine AllReady.cons rfl (fun K' hK => ?_) AllReady.nil
    rw [if_pos (by rfl)]
    refine op_load_all 24 _ rfl w.heap.size 0 rfl _ M _ _ 3 hMq Try.underlying24 rfl (by kernel_rfl) (by rw [HMs.out]; omega) M HME.out (hK _ _ ?_)
    clear hK K'
    (try simp only [Act.put, List.setIfInBounds_toArray, List.set_cons_zero, List.set_cons_succ])
    refine wpAny_ready (rs := [6]) (by kernel_rfl) (by decide) ?_
    refine AllReady.cons rfl (fun K' hK => ?_) AllReady.nil
    rw [if_pos (by rfl)]
    refine op_call 26 #[.agg M] (by go_simp) (fun v' w1 => ∃ v0 : Value, v' = .agg (m3 f t v0) ∧ BytT w1 v0 n Y ∧ Below wq.heap.size wq w1) ((CO.out wq hYq).mono (fun e w1 h => by obtain ⟨v0, h1, h2, h3⟩ := h; exact ⟨_, h1, v0, rfl, h2, h3⟩)) ?_
    rintro v' w1 ⟨v0, rfl, hv0, hb1⟩
    obtain ⟨sa, sc, rfl, _⟩ := id hv0
    refine hK _ _ ?_
    clear hK K'
    (try simp only [Act.put, List.setIfInBounds_toArray, List.set_cons_zero, List.set_cons_succ])
    have hgq1 := Ytfgcjgabknoamaa.kept hb1 hgq
    have hoq1 := own_below hb1 hoq
    have hBq1 := below_then hBq hb1
    clear hgq hMq hoq hYq hBq hb1
    have hgq := hgq1
    have hoq := hoq1
    have hBq := hBq1
    clear hgq1 hoq1 hBq1
    refine wpAny_take (i := 7) (v := .agg (p4 f t (.slice sa n sc) 0)) rfl (by kernel_rfl) (by kernel_rfl) (by kernel_rfl) (fun _ _ _ h => h) (Or.inl ⟨by rfl, fun wt => exec_build 60 _ rfl _ (by kernel_rfl)⟩) ?_
    (try simp only [Act.put, List.setIfInBounds_toArray, List.set_cons_zero, List.set_cons_succ])
    refine wpAny_ready (rs := [8]) (by kernel_rfl) (by decide) ?_
    refine AllReady.cons rfl (fun K' hK => ?_) AllReady.nil
    rw [if_pos (by rfl)]
    obtain ⟨ip, zp, ip1, ip2, ip3, ip4, ip5⟩ := info_put
    refine op_slice1 54 60 _ rfl (p4 f t (.slice sa n sc) 0) rfl rfl ip zp Try.underlying54 ip1 ip2 ip3 ip5 (hK _ _ ?_)
    clear hK K'
    (try simp only [Act.put, List.setIfInBounds_toArray, List.set_cons_zero, List.set_cons_succ])
    obtain ⟨gs, hgs0⟩ : ∃ gs, gs = w1.heap.size := ⟨_, rfl⟩
    rw [← hgs0]
    have hgs : (w1.alloc (Obj.cells (p4 f t (.slice sa n sc) 0) 60)).heap[gs]? = some (.cells (p4 f t (.slice sa n sc) 0) 60 (0, 0)) := by rw [hgs0]; exact heap_alloc_new _ _
    clear hgs0
    refine wpAny_ready (rs := [9]) (by kernel_rfl) (by decide) ?_
    refine AllReady.cons rfl (fun K' hK => ?_) AllReady.nil
    rw [if_pos (by rfl)]
    obtain ⟨ip, zp, ip1, ip2, ip3, ip4, ip5⟩ := info_put
    refine wp_append_own _ _ _ 54 rfl base 60 ip zp 4 ip.bytes Try.underlying54 ip1 ip2 ip3 rfl ip5 (by omega) (.slice ra k rc) k _ rfl (hoq.alloc (Obj.cells (p4 f t (.slice sa n sc) 0) 60)) ⟨gs, 0, none⟩ 1 1 (p4 f t (.slice sa n sc) 0).toList rfl rfl (fun j u hj => ?_) (fun u hu => ?_) (by unfold maxLen; omega) ?_ ?_ ?_
    · have h2 : (⟨gs, 0, none⟩ : Addr).add j = ⟨gs, j, none⟩ := by unfold Addr.add; split <;> simp_all
      rw [h2, cellF hgs]
      simpa using hj
    · have h1 := p4_all (f := f) (t := t) (ag := 0) (a := sa) (n := n) (c := sc)
      rw [Array.all_eq_true'] at h1
      exact h1 u (by simpa using hu)
    · have := Nat.mul_le_mul (show k + 1 ≤ 2001 by omega) ip4
      omega
    · have := hBq.size
      simp
      omega
    rintro v5 w5 ho5 hg5 _
    refine hK _ _ ?_
    clear hK K'
    (try simp only [Act.put, List.setIfInBounds_toArray, List.set_cons_zero, List.set_cons_succ])
    obtain ⟨ra5, rc5, rfl, _⟩ := own_rows (c := 4) (L := fun i => p4 (if i = k then f else F i) (if i = k then t else T i) (if i = k then .slice sa n sc else S i) (if i = k then 0 else Ag i)) (fun i => rfl) (by rw [flat_upd]; exact ho5)
    refine wpAny_take (i := 10) (v := ?_) rfl (by kernel_rfl) (by kernel_rfl) (by kernel_rfl) (fun _ _ _ h => h) (Or.inl ⟨by rfl, ?tka⟩) ?_
    case tka => (intro wt; go_simp; try with_reducible rfl)
    (try simp only [Act.put, List.setIfInBounds_toArray, List.set_cons_zero, List.set_cons_succ])
    refine wpAny_take (i := 11) (v := ?_) rfl (by kernel_rfl) (by kernel_rfl) (by kernel_rfl) (fun _ _ _ h => h) (Or.inl ⟨by rfl, ?tkb⟩) ?_
    case tkb => (intro wt; go_simp; try with_reducible rfl)
    (try simp only [Act.put, List.setIfInBounds_toArray, List.set_cons_zero, List.set_cons_succ])
    refine wpAny_ready (rs := [12]) (by kernel_rfl) (by decide) ?_
    refine AllReady.cons rfl (fun K' hK => ?_) AllReady.nil
    have hne5 : some g ≠ (Value.slice ra k rc).ownBlock := fun e => by
      obtain ⟨A9, fr9, h9⟩ := own_tag hoq g e.symm
      rw [hgq] at h9; injection h9 with h9; injection h9 with _ h9; exact absurd h9 (by decide)
    have hgq5 : w5.heap[g]? = some (.cells #[.slice ra k rc] 56 (0, 0)) := (hg5.block g (by have := (Array.getElem?_eq_some_iff.1 (heap_up (o := Obj.cells (p4 f t (.slice sa n sc) 0) 60) hgq)).1; exact this) hne5).trans (heap_up hgq)
    have c5 := cellF hgq5
    have f5 := (cells_of hgq5).2.1
    go_simp
    refine hK _ _ ?_
    clear hK K' c5 f5
    refine wpAny_done (by kernel_rfl) ?_ _
    go_wp2
    go_ret
    have hfin := net_grown HN.out hn hk hBq hoq hv0 hg5 ho5 hgq5
    exact ⟨⟨.slice sa n sc, rfl, hfin.1⟩, hfin.2⟩
  · rw [if_pos (by rfl)]
    refine op_load_all 24 _ rfl w.heap.size 0 rfl _ M _ _ 3 hMq Try.underlying24 rfl (by kernel_rfl) (by rw [HMs.out]; omega) M HME.out (hK _ _ ?_)
    clear hK K'
    (try simp only [Act.put, List.setIfInBounds_toArray, List.set_cons_zero, List.set_cons_succ])
    refine wpAny_ready (rs := [4, 6]) (by kernel_rfl) (by decide) ?_
    refine AllReady.cons rfl (fun K' hK => ?_) (AllReady.cons rfl (fun K' hK => ?_) AllReady.nil)
    · have cgA := cellF hgq
      go_simp
      refine hK _ _ ?_
      clear hK K' cgA
      refine wpAny_ready (rs := [6]) (by kernel_rfl) (by decide) ?_
      refine AllReady.cons rfl (fun K' hK => ?_) AllReady.nil
      rw [if_pos (by rfl)]
      refine op_call 26 #[.agg M] (by go_simp) (fun v' w1 => ∃ v0 : Value, v' = .agg (m3 f t v0) ∧ BytT w1 v0 n Y ∧ Below wq.heap.size wq w1) ((CO.out wq hYq).mono (fun e w1 h => by obtain ⟨v0, h1, h2, h3⟩ := h; exact ⟨_, h1, v0, rfl, h2, h3⟩)) ?_
      rintro v' w1 ⟨v0, rfl, hv0, hb1⟩
      obtain ⟨sa, sc, rfl, _⟩ := id hv0
      refine hK _ _ ?_
      clear hK K'
      (try simp only [Act.put, List.setIfInBounds_toArray, List.set_cons_zero, List.set_cons_succ])
      have hgq1 := Ytfgcjgabknoamaa.kept hb1 hgq
      have hoq1 := own_below hb1 hoq
      have hBq1 := below_then hBq hb1
      clear hgq hMq hoq hYq hBq hb1
      have hgq := hgq1
      have hoq := hoq1
      have hBq := hBq1
      clear hgq1 hoq1 hBq1
      refine wpAny_take (i := 7) (v := .agg (p4 f t (.slice sa n sc) 0)) rfl (by kernel_rfl) (by kernel_rfl) (by kernel_rfl) (fun _ _ _ h => h) (Or.inl ⟨by rfl, fun wt => exec_build 60 _ rfl _ (by kernel_rfl)⟩) ?_
      (try simp only [Act.put, List.setIfInBounds_toArray, List.set_cons_zero, List.set_cons_succ])
      refine wpAny_ready (rs := [8]) (by kernel_rfl) (by decide) ?_
      refine AllReady.cons rfl (fun K' hK => ?_) AllReady.nil
      rw [if_pos (by rfl)]
      obtain ⟨ip, zp, ip1, ip2, ip3, ip4, ip5⟩ := info_put
      refine op_slice1 54 60 _ rfl (p4 f t (.slice sa n sc) 0) rfl rfl ip zp Try.underlying54 ip1 ip2 ip3 ip5 (hK _ _ ?_)
      clear hK K'
      (try simp only [Act.put, List.setIfInBounds_toArray, List.set_cons_zero, List.set_cons_succ])
      obtain ⟨gs, hgs0⟩ : ∃ gs, gs = w1.heap.size := ⟨_, rfl⟩
      rw [← hgs0]
      have hgs : (w1.alloc (Obj.cells (p4 f t (.slice sa n sc) 0) 60)).heap[gs]? = some (.cells (p4 f t (.slice sa n sc) 0) 60 (0, 0)) := by rw [hgs0]; exact heap_alloc_new _ _
      clear hgs0
      refine wpAny_ready (rs := [9]) (by kernel_rfl) (by decide) ?_
      refine AllReady.cons rfl (fun K' hK => ?_) AllReady.nil
      rw [if_pos (by rfl)]
      obtain ⟨ip, zp, ip1, ip2, ip3, ip4, ip5⟩ := info_put
      refine wp_append_own _ _ _ 54 rfl base 60 ip zp 4 ip.bytes Try.underlying54 ip1 ip2 ip3 rfl ip5 (by omega) (.slice ra k rc) k _ rfl (hoq.alloc (Obj.cells (p4 f t (.slice sa n sc) 0) 60)) ⟨gs, 0, none⟩ 1 1 (p4 f t (.slice sa n sc) 0).toList rfl rfl (fun j u hj => ?_) (fun u hu => ?_) (by unfold maxLen; omega) ?_ ?_ ?_
      · have h2 : (⟨gs, 0, none⟩ : Addr).add j = ⟨gs, j, none⟩ := by unfold Addr.add; split <;> simp_all
        rw [h2, cellF hgs]
        simpa using hj
      · have h1 := p4_all (f := f) (t := t) (ag := 0) (a := sa) (n := n) (c := sc)
        rw [Array.all_eq_true'] at h1
        exact h1 u (by simpa using hu)
      · have := Nat.mul_le_mul (show k + 1 ≤ 2001 by omega) ip4
        omega
      · have := hBq.size
        simp
        omega
      rintro v5 w5 ho5 hg5 _
      refine hK _ _ ?_
      clear hK K'
      (try simp only [Act.put, List.setIfInBounds_toArray, List.set_cons_zero, List.set_cons_succ])
      obtain ⟨ra5, rc5, rfl, _⟩ := own_rows (c := 4) (L := fun i => p4 (if i = k then f else F i) (if i = k then t else T i) (if i = k then .slice sa n sc else S i) (if i = k then 0 else Ag i)) (fun i => rfl) (by rw [flat_upd]; exact ho5)
      refine wpAny_take (i := 10) (v := ?_) rfl (by kernel_rfl) (by kernel_rfl) (by kernel_rfl) (fun _ _ _ h => h) (Or.inl ⟨by rfl, ?tka⟩) ?_
      case tka => (intro wt; go_simp; try with_reducible rfl)
      (try simp only [Act.put, List.setIfInBounds_toArray, List.set_cons_zero, List.set_cons_succ])
      refine wpAny_take (i := 11) (v := ?_) rfl (by kernel_rfl) (by kernel_rfl) (by kernel_rfl) (fun _ _ _ h => h) (Or.inl ⟨by rfl, ?tkb⟩) ?_
      case tkb => (intro wt; go_simp; try with_reducible rfl)
      (try simp only [Act.put, List.setIfInBounds_toArray, List.set_cons_zero, List.set_cons_succ])
      refine wpAny_ready (rs := [12]) (by kernel_rfl) (by decide) ?_
      refine AllReady.cons rfl (fun K' hK => ?_) AllReady.nil
      have hne5 : some g ≠ (Value.slice ra k rc).ownBlock := fun e => by
        obtain ⟨A9, fr9, h9⟩ := own_tag hoq g e.symm
        rw [hgq] at h9; injection h9 with h9; injection h9 with _ h9; exact absurd h9 (by decide)
      have hgq5 : w5.heap[g]? = some (.cells #[.slice ra k rc] 56 (0, 0)) := (hg5.block g (by have := (Array.getElem?_eq_some_iff.1 (heap_up (o := Obj.cells (p4 f t (.slice sa n sc) 0) 60) hgq)).1; exact this) hne5).trans (heap_up hgq)
      have c5 := cellF hgq5
      have f5 := (cells_of hgq5).2.1
      go_simp
      refine hK _ _ ?_
      clear hK K' c5 f5
      refine wpAny_done (by kernel_rfl) ?_ _
      go_wp2
      go_ret
      have hfin := net_grown HN.out hn hk hBq hoq hv0 hg5 ho5 hgq5
      exact ⟨⟨.slice sa n sc, rfl, hfin.1⟩, hfin.2⟩
    · rw [if_pos (by rfl)]
      refine op_call 26 #[.agg M] (by go_simp) (fun v' w1 => ∃ v0 : Value, v' = .agg (m3 f t v0) ∧ BytT w1 v0 n Y ∧ Below wq.heap.size wq w1) ((CO.out wq hYq).mono (fun e w1 h => by obtain ⟨v0, h1, h2, h3⟩ := h; exact ⟨_, h1, v0, rfl, h2, h3⟩)) ?_
      rintro v' w1 ⟨v0, rfl, hv0, hb1⟩
      obtain ⟨sa, sc, rfl, _⟩ := id hv0
      refine hK _ _ ?_
      clear hK K'
      (try simp only [Act.put, List.setIfInBounds_toArray, List.set_cons_zero, List.set_cons_succ])
      have hgq1 := Ytfgcjgabknoamaa.kept hb1 hgq
      have hoq1 := own_below hb1 hoq
      have hBq1 := below_then hBq hb1
      clear hgq hMq hoq hYq hBq hb1
      have hgq := hgq1
      have hoq := hoq1
      have hBq := hBq1
      clear hgq1 hoq1 hBq1
      refine wpAny_take (i := 7) (v := .agg (p4 f t (.slice sa n sc) 0)) rfl (by kernel_rfl) (by kernel_rfl) (by kernel_rfl) (fun _ _ _ h => h) (Or.inl ⟨by rfl, fun wt => exec_build 60 _ rfl _ (by kernel_rfl)⟩) ?_
      (try simp only [Act.put, List.setIfInBounds_toArray, List.set_cons_zero, List.set_cons_succ])
      refine wpAny_ready (rs := [4, 8]) (by kernel_rfl) (by decide) ?_
      refine AllReady.cons rfl (fun K' hK => ?_) (AllReady.cons rfl (fun K' hK => ?_) AllReady.nil)
      · have cgA := cellF hgq
        go_simp
        refine hK _ _ ?_
        clear hK K' cgA
        refine wpAny_ready (rs := [8]) (by kernel_rfl) (by decide) ?_
        refine AllReady.cons rfl (fun K' hK => ?_) AllReady.nil
        rw [if_pos (by rfl)]
        obtain ⟨ip, zp, ip1, ip2, ip3, ip4, ip5⟩ := info_put
        refine op_slice1 54 60 _ rfl (p4 f t (.slice sa n sc) 0) rfl rfl ip zp Try.underlying54 ip1 ip2 ip3 ip5 (hK _ _ ?_)
        clear hK K'
        (try simp only [Act.put, List.setIfInBounds_toArray, List.set_cons_zero, List.set_cons_succ])
        obtain ⟨gs, hgs0⟩ : ∃ gs, gs = w1.heap.size := ⟨_, rfl⟩
        rw [← hgs0]
        have hgs : (w1.alloc (Obj.cells (p4 f t (.slice sa n sc) 0) 60)).heap[gs]? = some (.cells (p4 f t (.slice sa n sc) 0) 60 (0, 0)) := by rw [hgs0]; exact heap_alloc_new _ _
        clear hgs0
        refine wpAny_ready (rs := [9]) (by kernel_rfl) (by decide) ?_
        refine AllReady.cons rfl (fun K' hK => ?_) AllReady.nil
        rw [if_pos (by rfl)]
        obtain ⟨ip, zp, ip1, ip2, ip3, ip4, ip5⟩ := info_put
        refine wp_append_own _ _ _ 54 rfl base 60 ip zp 4 ip.bytes Try.underlying54 ip1 ip2 ip3 rfl ip5 (by omega) (.slice ra k rc) k _ rfl (hoq.alloc (Obj.cells (p4 f t (.slice sa n sc) 0) 60)) ⟨gs, 0, none⟩ 1 1 (p4 f t (.slice sa n sc) 0).toList rfl rfl (fun j u hj => ?_) (fun u hu => ?_) (by unfold maxLen; omega) ?_ ?_ ?_
        · have h2 : (⟨gs, 0, none⟩ : Addr).add j = ⟨gs, j, none⟩ := by unfold Addr.add; split <;> simp_all
          rw [h2, cellF hgs]
          simpa using hj
        · have h1 := p4_all (f := f) (t := t) (ag := 0) (a := sa) (n := n) (c := sc)
          rw [Array.all_eq_true'] at h1
          exact h1 u (by simpa using hu)
        · have := Nat.mul_le_mul (show k + 1 ≤ 2001 by omega) ip4
          omega
        · have := hBq.size
          simp
          omega
        rintro v5 w5 ho5 hg5 _
        refine hK _ _ ?_
        clear hK K'
        (try simp only [Act.put, List.setIfInBounds_toArray, List.set_cons_zero, List.set_cons_succ])
        obtain ⟨ra5, rc5, rfl, _⟩ := own_rows (c := 4) (L := fun i => p4 (if i = k then f else F i) (if i = k then t else T i) (if i = k then .slice sa n sc else S i) (if i = k then 0 else Ag i)) (fun i => rfl) (by rw [flat_upd]; exact ho5)
        refine wpAny_take (i := 10) (v := ?_) rfl (by kernel_rfl) (by kernel_rfl) (by kernel_rfl) (fun _ _ _ h => h) (Or.inl ⟨by rfl, ?tka⟩) ?_
        case tka => (intro wt; go_simp; try with_reducible rfl)
        (try simp only [Act.put, List.setIfInBounds_toArray, List.set_cons_zero, List.set_cons_succ])
        refine wpAny_take (i := 11) (v := ?_) rfl (by kernel_rfl) (by kernel_rfl) (by kernel_rfl) (fun _ _ _ h => h) (Or.inl ⟨by rfl, ?tkb⟩) ?_
        case tkb => (intro wt; go_simp; try with_reducible rfl)
        (try simp only [Act.put, List.setIfInBounds_toArray, List.set_cons_zero, List.set_cons_succ])
        refine wpAny_ready (rs := [12]) (by kernel_rfl) (by decide) ?_
        refine AllReady.cons rfl (fun K' hK => ?_) AllReady.nil
        have hne5 : some g ≠ (Value.slice ra k rc).ownBlock := fun e => by
          obtain ⟨A9, fr9, h9⟩ := own_tag hoq g e.symm
          rw [hgq] at h9; injection h9 with h9; injection h9 with _ h9; exact absurd h9 (by decide)
        have hgq5 : w5.heap[g]? = some (.cells #[.slice ra k rc] 56 (0, 0)) := (hg5.block g (by have := (Array.getElem?_eq_some_iff.1 (heap_up (o := Obj.cells (p4 f t (.slice sa n sc) 0) 60) hgq)).1; exact this) hne5).trans (heap_up hgq)
        have c5 := cellF hgq5
        have f5 := (cells_of hgq5).2.1
        go_simp
        refine hK _ _ ?_
        clear hK K' c5 f5
        refine wpAny_done (by kernel_rfl) ?_ _
        go_wp2
        go_ret
        have hfin := net_grown HN.out hn hk hBq hoq hv0 hg5 ho5 hgq5
        exact ⟨⟨.slice sa n sc, rfl, hfin.1⟩, hfin.2⟩
      · rw [if_pos (by rfl)]
        obtain ⟨ip, zp, ip1, ip2, ip3, ip4, ip5⟩ := info_put
        refine op_slice1 54 60 _ rfl (p4 f t (.slice sa n sc) 0) rfl rfl ip zp Try.underlying54 ip1 ip2 ip3 ip5 (hK _ _ ?_)
        clear hK K'
        (try simp only [Act.put, List.setIfInBounds_toArray, List.set_cons_zero, List.set_cons_succ])
        obtain ⟨gs, hgs0⟩ : ∃ gs, gs = w1.heap.size := ⟨_, rfl⟩
        rw [← hgs0]
        have hgs : (w1.alloc (Obj.cells (p4 f t (.slice sa n sc) 0) 60)).heap[gs]? = some (.cells (p4 f t (.slice sa n sc) 0) 60 (0, 0)) := by rw [hgs0]; exact heap_alloc_new _ _
        clear hgs0
        refine wpAny_ready (rs := [4]) (by kernel_rfl) (by decide) ?_
        refine AllReady.cons rfl (fun K' hK => ?_) AllReady.nil
        have cgA := cellF (heap_up (o := Obj.cells (p4 f t (.slice sa n sc) 0) 60) hgq)
        go_simp
        refine hK _ _ ?_
        clear hK K' cgA
        refine wpAny_ready (rs := [9]) (by kernel_rfl) (by decide) ?_
        refine AllReady.cons rfl (fun K' hK => ?_) AllReady.nil
        rw [if_pos (by rfl)]
        obtain ⟨ip, zp, ip1, ip2, ip3, ip4, ip5⟩ := info_put
        refine wp_append_own _ _ _ 54 rfl base 60 ip zp 4 ip.bytes Try.underlying54 ip1 ip2 ip3 rfl ip5 (by omega) (.slice ra k rc) k _ rfl (hoq.alloc (Obj.cells (p4 f t (.slice sa n sc) 0) 60)) ⟨gs, 0, none⟩ 1 1 (p4 f t (.slice sa n sc) 0).toList rfl rfl (fun j u hj => ?_) (fun u hu => ?_) (by unfold maxLen; omega) ?_ ?_ ?_
        · have h2 : (⟨gs, 0, none⟩ : Addr).add j = ⟨gs, j, none⟩ := by unfold Addr.add; split <;> simp_all
          rw [h2, cellF hgs]
          simpa using hj
        · have h1 := p4_all (f := f) (t := t) (ag := 0) (a := sa) (n := n) (c := sc)
          rw [Array.all_eq_true'] at h1
          exact h1 u (by simpa using hu)
        · have := Nat.mul_le_mul (show k + 1 ≤ 2001 by omega) ip4
          omega
        · have := hBq.size
          simp
          omega
        rintro v5 w5 ho5 hg5 _
        refine hK _ _ ?_
        clear hK K'
        (try simp only [Act.put, List.setIfInBounds_toArray, List.set_cons_zero, List.set_cons_succ])
        obtain ⟨ra5, rc5, rfl, _⟩ := own_rows (c := 4) (L := fun i => p4 (if i = k then f else F i) (if i = k then t else T i) (if i = k then .slice sa n sc else S i) (if i = k then 0 else Ag i)) (fun i => rfl) (by rw [flat_upd]; exact ho5)
        refine wpAny_take (i := 10) (v := ?_) rfl (by kernel_rfl) (by kernel_rfl) (by kernel_rfl) (fun _ _ _ h => h) (Or.inl ⟨by rfl, ?tka⟩) ?_
        case tka => (intro wt; go_simp; try with_reducible rfl)
        (try simp only [Act.put, List.setIfInBounds_toArray, List.set_cons_zero, List.set_cons_succ])
        refine wpAny_take (i := 11) (v := ?_) rfl (by kernel_rfl) (by kernel_rfl) (by kernel_rfl) (fun _ _ _ h => h) (Or.inl ⟨by rfl, ?tkb⟩) ?_
        case tkb => (intro wt; go_simp; try with_reducible rfl)
        (try simp only [Act.put, List.setIfInBounds_toArray, List.set_cons_zero, List.set_cons_succ])
        refine wpAny_ready (rs := [12]) (by kernel_rfl) (by decide) ?_
        refine AllReady.cons rfl (fun K' hK => ?_) AllReady.nil
        have hne5 : some g ≠ (Value.slice ra k rc).ownBlock := fun e => by
          obtain ⟨A9, fr9, h9⟩ := own_tag hoq g e.symm
          rw [hgq] at h9; injection h9 with h9; injection h9 with _ h9; exact absurd h9 (by decide)
        have hgq5 : w5.heap[g]? = some (.cells #[.slice ra k rc] 56 (0, 0)) := (hg5.block g (by have := (Array.getElem?_eq_some_iff.1 (heap_up (o := Obj.cells (p4 f t (.slice sa n sc) 0) 60) hgq)).1; exact this) hne5).trans (heap_up hgq)
        have c5 := cellF hgq5
        have f5 := (cells_of hgq5).2.1
        go_simp
        refine hK _ _ ?_
        clear hK K' c5 f5
        refine wpAny_done (by kernel_rfl) ?_ _
        go_wp2
        go_ret
        have hfin := net_grown HN.out hn hk hBq hoq hv0 hg5 ho5 hgq5
        exact ⟨⟨.slice sa n sc, rfl, hfin.1⟩, hfin.2⟩
theorem send_any (g base k : Nat) (F T Ag : Nat → Int) (S : Nat → Value) (Ln : Nat → Nat) (X : Nat → Nat → Int) (f t : Int) (a : Option Addr) (n c : Nat) (Y : Nat → Int) (w : World) (hN : NetIs w g base k F T Ag S Ln X) (hY : Byt w a n Y) (hz : a = none → n = 0 ∧ c = 0) (hn : n ≤ 1048576) (hk : k < 2000) :
    Calls Try.prog 9 #[.pointer (some ⟨g, 0, none⟩), .agg (m3 f t (.slice a n c))] w fun e w' => (∃ s : Value, e = .returned (.int .i64 0) ∧ NetIs w' g base (k + 1) (fun i => if i = k then f else F i) (fun i => if i = k then t else T i) (fun i => if i = k then 0 else Ag i) (fun i => if i = k then s else S i) (fun i => if i = k then n else Ln i) (fun i => if i = k then Y else X i)) ∧ Below base w w' :=
  (send_kp g base k F T Ag S Ln X f t a n c Y w hN hY hz hn hk).mono fun e w' ⟨h1, h2, _⟩ => ⟨h1, h2⟩
end Go.Proofs.Ytfgcjgabknoamaa
