/- CalendarApart, walked: it returns true. No condition. -/
import Derived.Test.YtobokknfpjjdeaaAp05
import Derived.Test.YtobokknfpjjdeaaSlIn
import Derived.Test.YtobokknfpjjdeaaOp05
import Derived.Test.YtobokknfpjjdeaaCalIR
import Derived.Test.YtobokknfpjjdeaaSame05
import Derived.Test.YtobokknfpjjdeaaKnown05
import Derived.RangeFuncBox
import Derived.Test.YtobokknfpjjdeaaHr
namespace Go.Proofs.Ytobokknfpjjdeaa
set_option linter.unusedVariables false
set_option linter.unusedSimpArgs false
open Go.RowKit Go.Shelf
attribute [local go_sem] Oper.semAt_some

/-- what lies there all the time -/
structure Aenv (n : Int) (w wr : World) : Prop where
  bx : wr.heap[w.heap.size]? = some (.cells #[.int .u32 n] 29 (0, 0))
  rs : wr.heap[w.heap.size + 1]? = some (.cells #[.bool false] 4 (0, 0))
  be : Below w.heap.size w wr
theorem Aenv.kept {n : Int} {w wr w' : World} (h : Aenv n w wr) (hb : Below (w.heap.size + 1 + 1) wr w') : Aenv n w w' :=
  ⟨(hb.block _ (by omega)).trans h.bx, (hb.block _ (by omega)).trans h.rs, h.be.trans (hb.mono (by omega))⟩
theorem Aenv.below {n : Int} {w wr w' : World} (h : Aenv n w wr) (hb : Below wr.heap.size wr w') : Aenv n w w' :=
  h.kept (hb.mono (by have := (Array.getElem?_eq_some_iff.1 h.rs).1; omega))
theorem wp_gen {P : Program} {c : Code} {Q : Exit → Act → World → Prop} {T : Array Value} {ds : List Deferred} {w : World} (lit : (Nat → Value) → Array Value) (hT : T = lit (fun i => T.getD i undef)) (h : ∀ u, c.wp P Q ⟨lit u, ds⟩ w) : c.wp P Q ⟨T, ds⟩ w := by rw [hT]; exact h _
theorem info_conA : ∃ i z, Try.prog.info? 65 = some i ∧ i.zero = some z ∧ i.size = 27 ∧ i.bytes ≤ 1000 ∧ z.cells.size = 27 := by
  obtain ⟨i, z, h1, h2, h3, h4, h5⟩ := info_con
  exact ⟨i, z, h1, h2, h3, by omega, h5⟩
/-- what the rounds have copied -/
def WasI (w3 : World) (K : Nat → Array Value) (p : Nat × Option Nat) (W : World) : Prop := (∃ v, Boxed W w3.heap.size 62 v ∧ W.ownsRow w3.heap.size 65 27 v p.1 (flat K p.1) ∧ v.ownBlock = p.2) ∧ Below w3.heap.size w3 W
theorem wasI_from {w3 : World} {K : Nat → Array Value} {B : Nat} (hB : w3.heap.size ≤ B) : OwnFrom B (WasI w3 K) := fun p W W' row ⟨h1, h2⟩ hg hr =>
  ⟨holdsRow_own w3.heap.size w3.heap.size _ _ 27 (fun p : Nat × Option Nat => p.1) (fun p => flat K p.1) (fun p v => v.ownBlock = p.2) p W W' row h1 hg (fun r e => (hr r e).2), h2.grown hg h2.size (fun r e => by have := (hr r e).1; omega)⟩
theorem wasI_next {w3 W W1 : World} {K : Nat → Array Value} {j : Nat} {r : Option Nat} {s : Nat} {v v' : Value} (hK : ∀ i, IsCon (K i)) (hv : Boxed W w3.heap.size 62 v) (hrow : W.ownsRow w3.heap.size 65 27 v j (flat K j)) (hr : v.ownBlock = r) (hb : Below w3.heap.size w3 W) (hs : w3.heap.size < s)
    (ho : W1.ownsRow w3.heap.size 65 27 v' (j + 1) (flat K j ++ (K j).toList)) (hg : (W.alloc (.cells (K j) 65)).grownBy W1 v.ownBlock) (hat : v'.ownBlock = v.ownBlock ∨ v'.ownBlock = some (W.heap.size + 1)) :
    Boxed W1 w3.heap.size 62 v ∧ KeepsOthers W (W1.setCell ⟨w3.heap.size, 0, none⟩ v') ∧ ∃ r', KnR s r W (W1.setCell ⟨w3.heap.size, 0, none⟩ v') ∧ RowTo W r r' ∧ WasI w3 K (j + 1, r') (W1.setCell ⟨w3.heap.size, 0, none⟩ v') := by
  obtain ⟨a1, a2, a3, a4, a5⟩ := hv.appended (by decide) hrow hb.size (Nat.le_refl _) ho hg
  refine ⟨a1, a4, v'.ownBlock, ?_, ?_, ⟨⟨v', a2, ?_, rfl⟩, hb.trans a5⟩⟩
  · subst hr
    exact (KnR.trans (knR_grown (s := s) (World.grownBy_alloc W _ v.ownBlock)) (knR_grown hg)).trans (Kn.toR (kn_set (g := w3.heap.size) hs (fun i hi => heap_setCell_other W1 _ i _ hi)))
  · rcases hat with e | e
    · exact .inl (e.trans hr)
    · exact .inr ⟨_, e, by omega⟩
  · have e : flat K (j + 1) = flat K j ++ (K j).toList := by
      have := flat_snoc K j (K j)
      rw [← this]
      exact flat_congr (j + 1) (fun i hi => by unfold snoc; split <;> simp_all)
    show World.ownsRow _ _ _ _ _ (j + 1) (flat K (j + 1))
    rw [e]
    exact a3
/-- what lies there behind the first range -/
structure Wenv (n : Int) (w : World) (bw D : Nat) (v : Value) (k : Nat) (K : Nat → Array Value) (v0 : Value) (wx : World) : Prop where
  A : Aenv n w wx
  hv : ∃ d, wx.heap[w.heap.size + 1 + 1]? = some (.cells #[.bool true, .int .u32 d, v0] 93 (0, 0))
  lo : ∀ b, v0.ownBlock = some b → b < bw
  hg : w.heap.size + 1 + 1 < bw
  bx : Boxed wx bw 62 v
  ow : wx.ownsRow bw 65 27 v k (flat K k)
  dl : bw < D
  dD : wx.heap[D]? = some (.deferred (some []))
theorem Wenv.kv {n : Int} {w : World} {bw D : Nat} {v : Value} {k : Nat} {K : Nat → Array Value} {v0 : Value} {wx w' : World} (h : Wenv n w bw D v k K v0 wx) (hk : Kv (w.heap.size + 1 + 1) wx w') (hb : Below (w.heap.size + 1 + 1) wx w') : Wenv n w bw D v k K v0 w' := by
  obtain ⟨d, hd⟩ := h.hv
  obtain ⟨k1, d', k2⟩ := hk v0 d hd
  have hi : ∀ i o, bw ≤ i → wx.heap[i]? = some o → w'.heap[i]? = some o := fun i o hle ho =>
    (k1 i (fun e => by have := h.hg; omega) (fun e => by have := h.lo i e.symm; omega) (Array.getElem?_eq_some_iff.1 ho).1).trans ho
  refine ⟨h.A.kept hb, ⟨d', k2⟩, h.lo, h.hg, hi _ _ (Nat.le_refl _) h.bx, ?_, h.dl, hi _ _ (Nat.le_of_lt h.dl) h.dD⟩
  obtain ⟨a1, a2⟩ := h.ow
  refine ⟨a1, ?_⟩
  rcases a2 with a2 | ⟨gx, cap, cur, q1, q2, q3, q4⟩
  · exact .inl a2
  · exact .inr ⟨gx, cap, cur, q1, q2, hi _ _ q2 q3, q4⟩
theorem Wenv.below {n : Int} {w : World} {bw D : Nat} {v : Value} {k : Nat} {K : Nat → Array Value} {v0 : Value} {wx w' : World} (h : Wenv n w bw D v k K v0 wx) (hb : Below wx.heap.size wx w') : Wenv n w bw D v k K v0 w' := by
  obtain ⟨d, hd⟩ := h.hv
  exact h.kv (kv_below hb) (hb.mono (Nat.le_of_lt (Array.getElem?_eq_some_iff.1 hd).1))
/-- nothing but the normal way on -/
def onlyN (K : Act → World → Prop) : Exit → Act → World → Prop
  | .normal, a, w => K a w
  | _, _, _ => False
theorem wp_only {P : Program} {c : Code} {Q : Exit → Act → World → Prop} {a : Act} {w : World} (h : c.wp P (onlyN (fun a w => Q .normal a w)) a w) : c.wp P Q a w := wp_mono h (fun e a w h => by cases e <;> first | exact h | exact h.elim)
set_option maxRecDepth 100000 in
set_option maxHeartbeats 4000000 in
theorem apart05_walk (a0 : Option Addr) (n0 c0 : Nat) (L0 : Nat → Array Value) (n : Int) (a2 : Option Addr) (n2 c2 : Nat) (L2 : Nat → Array Value) (w : World) (hn : 0 ≤ n ∧ n ≤ 4294967295)
    (hL0 : ∀ i, IsSpec (L0 i)) (hl0 : RowsC w 25 a0 n0 L0) (hn0 : n0 ≤ c0) (hc0 : c0 ≤ 9223372036854775807) (hz0 : a0 = none → n0 = 0 ∧ c0 = 0)
    (hL2 : ∀ i, IsOp5 (L2 i)) (hl2 : RowsC w 29 a2 n2 L2) (hn2 : n2 ≤ c2) (hc2 : c2 ≤ 9223372036854775807) (hz2 : a2 = none → n2 = 0 ∧ c2 = 0) :
    Calls Try.prog 8 #[.slice a0 n0 c0, .int .u32 n, .slice a2 n2 c2] w fun e w' => e = .returned (.bool true) ∧ Below w.heap.size w w' := by
  have hne : ∀ (w : World) (g : Nat), (binOp .eql 56 (.pointer (some ⟨g, 0, none⟩)) (.pointer none)).run Try.prog w = .ok (.bool false) w := fun _ _ => by kernel_rfl
  have hnn : ∀ (w : World) (g : Nat), (binOp .neq 56 (.pointer (some ⟨g, 0, none⟩)) (.pointer none)).run Try.prog w = .ok (.bool true) w := fun _ _ => by kernel_rfl
  have hfe : ∀ (w1 : World) (g : Nat), (binOp .eql 82 (.func (.func 66) #[] #[.pointer (some ⟨g, 0, none⟩)]) Value.nilFunc).run Try.prog w1 = .ok (.bool false) w1 := fun _ _ => by kernel_rfl
  have HL0 := Lib.hid hL0
  have HR0 := Lib.hid hl0
  have HL2 := Lib.hid hL2
  have HR2 := Lib.hid hl2
  clear hL0 hl0 hz0 hL2 hl2 hz2
  refine calls_marks Try.func8 rfl ?_
  simp only [Try.ntmps8, List.size_toArray, List.length_cons, List.length_nil, Nat.reduceAdd, Nat.reduceSub, Array.replicate_succ, Array.replicate_zero, List.push_toArray, List.append_toArray, List.nil_append, List.cons_append]
  have hA0 : Aenv n w ((w.alloc (Obj.cells #[.int .u32 n] 29)).alloc (Obj.cells #[.bool false] 4)) := by
    refine ⟨heap_up (heap_alloc_new _ _), ?_, below_alloc (below_new _ _) _⟩
    have := heap_alloc_new (w.alloc (Obj.cells #[.int .u32 n] 29)) (Obj.cells #[.bool false] 4)
    simpa using this
  by_cases hbig : 16 < n0 ∨ 100 < n2
  · have cn := cnew_any
    by_cases h16 : 16 < n0
    · have hbz : (16 : Int) < n0 := by omega
      go_wp2_with (first | (go_at_call 23; (with_reducible refine (cnew_any _).mono ?_); rintro e w1 ⟨rfl, hN1, hb1⟩) | (go_at_call 24; (with_reducible refine (known05 _).mono ?_); rintro e w9 ⟨rfl, hb9⟩; have hA9 := (hA0.below hb1).below hb9; have c9 := cellF hA9.rs; have f9 := (cells_of hA9.rs).2.1))
      have hs9 := heap_set (i := 0) (v := .bool true) hA9.rs
      have hc := cellF hs9 0
      refine leaves_nil (v := .bool true) ?_ ⟨rfl, below_set hA9.be (by omega)⟩
      simp [results, Try.f8, go_sem, hc]
    · have hbz : ¬ (16 : Int) < n0 := by omega
      have hbz2 : (100 : Int) < n2 := by omega
      go_wp2_with (first | (go_at_call 23; (with_reducible refine (cnew_any _).mono ?_); rintro e w1 ⟨rfl, hN1, hb1⟩) | (go_at_call 24; (with_reducible refine (known05 _).mono ?_); rintro e w9 ⟨rfl, hb9⟩; have hA9 := (hA0.below hb1).below hb9; have c9 := cellF hA9.rs; have f9 := (cells_of hA9.rs).2.1))
      have hs9 := heap_set (i := 0) (v := .bool true) hA9.rs
      have hc := cellF hs9 0
      refine leaves_nil (v := .bool true) ?_ ⟨rfl, below_set hA9.be (by omega)⟩
      simp [results, Try.f8, go_sem, hc]
  have hbz : ¬ (16 : Int) < n0 := by omega
  have hbz2 : ¬ (100 : Int) < n2 := by omega
  go_wp2_with (first | (go_at_call 23; (with_reducible refine (cnew_any _).mono ?_); rintro e w1 ⟨rfl, hN1, hb1⟩))
  have hsz2 : ((w.alloc (Obj.cells #[.int .u32 n] 29)).alloc (Obj.cells #[.bool false] 4)).heap.size = w.heap.size + 1 + 1 := by simp
  rw [hsz2] at hN1
  have HE1 := Lib.hid (hA0.below hb1)
  have HN1 := Lib.hid hN1
  clear hA0 hb1 hN1 hsz2
  go_loopg [8, 34] n0 (fun gh v8 i wr => ∃ (j k : Nat) (K : Nat → Array Value), j ≤ n0 ∧ gh = n0 - j ∧ i = .int .i64 j ∧ CalIs wr (w.heap.size + 1 + 1) (w.heap.size + 1 + 1) k 0 K ∧ Aenv n w wr)
  case atStart => exact ⟨0, 0, _, by omega, rfl, rfl, HN1.out, HE1.out⟩
  case round =>
    obtain ⟨j, k, K, hj, rfl, rfl, hC, hE⟩ := hrel
    clear HE1 HN1
    by_cases hlt : j < n0
    · obtain ⟨ga, off, A, t, fr, rfl, hgA, hsA, hxA⟩ := HR0.out.kept hE.be j hlt
      have ca := clist_any hC (HL0.out j)
      have HC := Lib.hid hC
      have HE := Lib.hid hE
      clear hC hE
      go_wp2_with (first | ((with_reducible refine at_load 61 ?_); refine wpList_load_part rfl 61 _ rfl (ga) (off + j * 25) rfl _ (A) _ _ 25 (hgA) Try.underlying61 rfl (by kernel_rfl) (hsA) (L0 j) (hxA) ?_) | (go_at_call 25; (with_reducible refine (ca).mono ?_); rintro e w3 ⟨r, rfl, h3⟩))
      rcases h3 with ⟨_, hb3⟩ | ⟨_, _, _, _, _, pi, _, q3, q4⟩
      · go_roundg (n0 - (j + 1))
        case measure => omega
        case rel => exact ⟨j + 1, k, K, by omega, rfl, by go_num, HC.out.kept hb3, HE.out.below hb3⟩
      · go_roundg (n0 - (j + 1))
        case measure => omega
        case rel => exact ⟨j + 1, k + 1, _, by omega, rfl, by go_num, q3, HE.out.kept q4⟩
    · obtain rfl : j = n0 := by omega
      have HC := Lib.hid hC
      have HE := Lib.hid hE
      clear hC hE
      go_wp2_with (first | (go_at_call 34; (with_reducible refine (call_any _).mono ?_); rintro e w6 ⟨rfl, rfl⟩))
      refine wp_gen (fun u => #[u 0, u 1, .slice a2 n2 c2, u 3, .pointer (some ⟨w.heap.size, 0, none⟩), u 5, .pointer (some ⟨w.heap.size + 1, 0, none⟩), .pointer (some ⟨w.heap.size + 1 + 1, 0, none⟩), u 8, .pointer (some ⟨wr.heap.size, 0, none⟩), u 10, u 11, u 12, u 13, u 14, u 15, u 16, u 17, u 18, u 19, u 20, u 21, u 22, u 23, u 24, u 25, u 26, u 27, u 28, u 29, u 30, u 31, u 32, u 33, u 34, u 35, u 36, u 37, u 38, u 39, u 40, u 41, u 42, u 43, u 44, u 45, u 46, u 47, .func (.func 66) #[] #[.pointer (some ⟨wr.heap.size + 1 + 1, 0, none⟩)], u 49, u 50, u 51, u 52, u 53, u 54, u 55, u 56, u 57, u 58, u 59, u 60, u 61, u 62, u 63, u 64, u 65, u 66, u 67, u 68, u 69, u 70, u 71, u 72, u 73, u 74, u 75, u 76, u 77, u 78, u 79, u 80, u 81, u 82, u 83, u 84, u 85, u 86, u 87, u 88, u 89, u 90, u 91, u 92, u 93, u 94, u 95, u 96, u 97, u 98, u 99, u 100, u 101, u 102, u 103, u 104, u 105, u 106, u 107, u 108, u 109, u 110, u 111, u 112, u 113, u 114, u 115, u 116, u 117, u 118, u 119, u 120, u 121, u 122, u 123, u 124, u 125, u 126, u 127, u 128, u 129, u 130, u 131, u 132, u 133, u 134, u 135, u 136, u 137, u 138, u 139, u 140, u 141, u 142, u 143]) (by rfl) (fun u => ?_)
      obtain ⟨w6, hw6⟩ : ∃ w6, w6 = (((wr.alloc (Obj.cells #[Value.slice none 0 0] 62)).alloc (Obj.cells #[Value.pointer (some ⟨w.heap.size + 1 + 1, 0, none⟩)] 56)).alloc (Obj.cells #[Value.pointer (some ⟨w.heap.size + 1 + 1, 0, none⟩)] 56)) := ⟨_, rfl⟩
      have hB6 : Below wr.heap.size wr w6 := by rw [hw6]; exact below_alloc (below_alloc (below_new _ _) _) _
      have m9 : Boxed w6 wr.heap.size 62 (.slice none 0 0) := by rw [hw6]; exact heap_up (heap_up (heap_alloc_new _ _))
      have mb : w6.heap[wr.heap.size + 1 + 1]? = some (.cells #[.pointer (some ⟨w.heap.size + 1 + 1, 0, none⟩)] 56 (0, 0)) := by
        rw [hw6]
        have := heap_alloc_new ((wr.alloc (Obj.cells #[Value.slice none 0 0] 62)).alloc (Obj.cells #[Value.pointer (some ⟨w.heap.size + 1 + 1, 0, none⟩)] 56)) (Obj.cells #[Value.pointer (some ⟨w.heap.size + 1 + 1, 0, none⟩)] 56)
        simpa using this
      have hz6 : w6.heap.size = wr.heap.size + 3 := by rw [hw6]; simp
      rw [← hw6]
      clear hw6
      have HC6 := Lib.hid (HC.out.kept hB6)
      refine range_roundsR (gf := 66) (lb := #[.pointer (some ⟨wr.heap.size + 1 + 1, 0, none⟩)]) (encs := fun j => #[.agg (K j)]) (k := k) rfl (enters_of Try.func66 (by kernel_rfl) rfl) (fun _ => rfl) (call_seqR mb HC6.out (Nat.le_refl _))
        (WasI wr K) (fun c j W => False) ?oI ?oX ?i0 (fun j W => W.alloc (.cells (K j) 65)) (fun j W => World.grownBy_alloc W _ none)
        (fun j W0 => { tmps := #[u 0, u 1, .slice a2 n2 c2, u 3, .pointer (some ⟨w.heap.size, 0, none⟩), u 5, .pointer (some ⟨w.heap.size + 1, 0, none⟩), .pointer (some ⟨w.heap.size + 1 + 1, 0, none⟩), u 8, .pointer (some ⟨wr.heap.size, 0, none⟩), .pointer (some ⟨W0.heap.size, 0, none⟩), u 11, u 12, u 13, u 14, u 15, u 16, u 17, u 18, u 19, u 20, u 21, u 22, u 23, u 24, u 25, u 26, u 27, u 28, u 29, u 30, u 31, u 32, u 33, u 34, u 35, u 36, u 37, u 38, u 39, u 40, u 41, u 42, u 43, u 44, u 45, u 46, u 47, .func (.func 66) #[] #[.pointer (some ⟨wr.heap.size + 1 + 1, 0, none⟩)], .agg (K j), u 50, u 51, u 52, u 53, u 54, u 55, u 56, u 57, u 58, u 59, u 60, u 61, u 62, u 63, u 64, u 65, u 66, u 67, u 68, u 69, u 70, u 71, u 72, u 73, u 74, u 75, u 76, u 77, u 78, u 79, u 80, u 81, u 82, u 83, u 84, u 85, u 86, u 87, u 88, u 89, u 90, u 91, u 92, u 93, u 94, u 95, u 96, u 97, u 98, u 99, u 100, u 101, u 102, u 103, u 104, u 105, u 106, u 107, u 108, u 109, u 110, u 111, u 112, u 113, u 114, u 115, u 116, u 117, u 118, u 119, u 120, u 121, u 122, u 123, u 124, u 125, u 126, u 127, u 128, u 129, u 130, u 131, u 132, u 133, u 134, u 135, u 136, u 137, u 138, u 139, u 140, u 141, u 142, u 143], defers := [] }) ?assign ?body ?done ?stop
      case oI => exact wasI_from (by omega)
      case oX => exact fun _ _ _ _ _ h => h.elim
      case i0 => exact ⟨⟨_, m9, World.ownsRow_nil _ _ _ _, rfl⟩, hB6⟩
      case stop => exact fun _ _ _ _ _ _ h _ => h.elim
      case assign =>
        intro l i W K' hj hK
        have hO := HC6.out.con i
        have hsz := hO.size
        refine wpIn_lit (t := #[u 0, u 1, .slice a2 n2 c2, u 3, .pointer (some ⟨w.heap.size, 0, none⟩), u 5, .pointer (some ⟨w.heap.size + 1, 0, none⟩), .pointer (some ⟨w.heap.size + 1 + 1, 0, none⟩), u 8, .pointer (some ⟨wr.heap.size, 0, none⟩), u 10, u 11, u 12, u 13, u 14, u 15, u 16, u 17, u 18, u 19, u 20, u 21, u 22, u 23, u 24, u 25, u 26, u 27, u 28, u 29, u 30, u 31, u 32, u 33, u 34, u 35, u 36, u 37, u 38, u 39, u 40, u 41, u 42, u 43, u 44, u 45, u 46, u 47, .func (.func 66) #[] #[.pointer (some ⟨wr.heap.size + 1 + 1, 0, none⟩)], .agg (K i), u 50, u 51, u 52, u 53, u 54, u 55, u 56, u 57, u 58, u 59, u 60, u 61, u 62, u 63, u 64, u 65, u 66, u 67, u 68, u 69, u 70, u 71, u 72, u 73, u 74, u 75, u 76, u 77, u 78, u 79, u 80, u 81, u 82, u 83, u 84, u 85, u 86, u 87, u 88, u 89, u 90, u 91, u 92, u 93, u 94, u 95, u 96, u 97, u 98, u 99, u 100, u 101, u 102, u 103, u 104, u 105, u 106, u 107, u 108, u 109, u 110, u 111, u 112, u 113, u 114, u 115, u 116, u 117, u 118, u 119, u 120, u 121, u 122, u 123, u 124, u 125, u 126, u 127, u 128, u 129, u 130, u 131, u 132, u 133, u 134, u 135, u 136, u 137, u 138, u 139, u 140, u 141, u 142, u 143]) (by simp) ?_
        gi_wp2_with (first | ((with_reducible refine at_allocIn 65 ?_); refine wpListIn_alloc_named rfl 65 rfl (cz) (by kernel_rfl) ?_) | ((with_reducible refine at_storeIn 65 ?_); refine wpListIn_store_new rfl 65 _ _ rfl (K i) _ _ _ rfl (by simp) rfl (by rw [hsz]; kernel_rfl) (by rw [hsz]; rfl) (hO.all) ?_))
        exact hK
      case body =>
        rintro l i r W0 W hj ⟨⟨v, hbox, hrow, hown⟩, hB⟩ hsW hup _
        have hO := HC6.out.con i
        have hv := hup _ _ _ _ (heap_alloc_new W0 (Obj.cells (K i) 65))
        have hk16 := HC6.out.hk
        have HN := Lib.hid (fun (v' : Value) (W1 : World) => wasI_next (s := wr.heap.size + 3) (v' := v') (W1 := W1) HC6.out.con hbox hrow hown hB (by omega))
        have hcell := hbox.cell
        have hrow0 := Lib.hid hrow
        have HBs := Lib.hid hB.size
        have hsz := hO.size
        have HALL := Lib.hid hO.all
        have hex : (K i).extract 0 (0 + 27) = K i := by rw [show 0 + 27 = (K i).size by rw [hsz]]; simp
        have hvs : 0 + 27 ≤ (K i).size := by omega
        have HSZ := Lib.hid hsz
        clear hbox hrow hown hB hO hsz hup
        refine wpIn_block ?_
        gi_wp2_with (first | ((with_reducible refine at_loadIn 65 ?_); refine wpListIn_load_part rfl 65 _ rfl (W0.heap.size) (0) rfl _ (K i) _ _ 27 (hv) Try.underlying65 rfl (by kernel_rfl) (hvs) (K i) (hex) ?_) | ((with_reducible refine at_slice1In 62 ?_); obtain ⟨ip, zp, ip1, ip2, ip3, ip4, ip5⟩ := info_conA; refine wpListIn_slice1c rfl 62 65 _ rfl (K i) 27 rfl HSZ.out ip zp Try.underlying62 ip1 ip2 ip3 ip5 (by omega) (by omega) ?_; clear ip1 ip2 ip3 ip4 ip5) | ((with_reducible refine at_appendIn 62 ?_); refine wpListIn_append_row1 rfl _ _ rfl Try.underlying62 info_conA (by omega) HSZ.out HALL.out wr.heap.size v i _ rfl hrow0.out rfl (by omega) HBs.out ?_; intro v1 W1 ho1 hg1 hat1; obtain ⟨g9, c9, rfl⟩ := ownsRow_succ ho1; (have hN1 := HN.out _ W1 ho1 hg1 hat1); (have c9 := hN1.1.cell); (have f9 := hN1.1.frozen); (have HN1 := Lib.hid hN1.2); clear ho1 hg1 hat1 hN1))
        exact HN1.out
      case done =>
        rintro D r W hD ⟨⟨v, hbox, hrow, hown⟩, hB⟩ hK
        obtain ⟨v0, hg0, hrow0⟩ := HC.out.row
        have HE2 := Lib.hid (show Wenv n w wr.heap.size D v k K v0 W from ⟨HE.out.below hB, ⟨0, Ytobokknfpjjdeaa.kept hB hg0⟩, fun b hb => by obtain ⟨A9, fr9, h9⟩ := own_tag hrow0 b hb; exact (Array.getElem?_eq_some_iff.1 h9).1, (cells_of hg0).2.2, hbox, hrow, by omega, hK⟩)
        have HC2 := Lib.hid (HC.out.kept hB)
        have HKC := Lib.hid HC.out.con
        clear hbox hrow hown hB hK hg0 hrow0 HC HE HC6 hD
        generalize hbw : wr.heap.size = bw at *
        clear hbw hB6 m9 mb hz6
        dsimp only
        go_wp2_with fail
        go_loopg [11, 56] n2 (fun gh v11 v56 wx => ∃ (i : Nat) (K2 : Nat → Array Value), i ≤ n2 ∧ gh = n2 - i ∧ v56 = .int .i64 i ∧ CalIs wx (w.heap.size + 1 + 1) (w.heap.size + 1 + 1) k 0 K2 ∧ Ap n K K2 k ∧ Wenv n w bw D v k K v0 wx)
        case atStart => exact ⟨0, K, by omega, by omega, rfl, HC2.out, Ap.refl _ _ _, HE2.out⟩
        case round =>
          clear HE2 HC2
          obtain ⟨i, K2, hi, rfl, rfl, hC, hA2, hE2⟩ := hrel
          by_cases hlt : i < n2
          · obtain ⟨ga, off, A, t, fr, rfl, hgA0, hsA, hxA⟩ := HR2.out i hlt
            have hop := HL2.out i
            have hat : ∀ q, q < 29 → A[off + i * 29 + q]? = (L2 i)[q]? := fun q hq => by
              rw [← hxA, Array.getElem?_extract, if_pos (by omega)]
            have m0 := (hat 0 (by omega)).trans hop.k.1
            have m27 := (hat 27 (by omega)).trans hop.on
            have m28 := (hat 28 (by omega)).trans hop.pr.1
            have hf : F64 (N (L2 i) 28) := hop.pr.2
            have hgal := (Array.getElem?_eq_some_iff.1 hgA0).1
            have hgA := Ytobokknfpjjdeaa.kept hE2.A.be hgA0
            have HC2 := Lib.hid hC
            have HE2 := Lib.hid hE2
            have HA2 := Lib.hid hA2
            have hik : (i : Int) < n2 := by omega
            clear hop hat hC hA2 hE2 hgA0 hsA hxA
            generalize N (L2 i) 0 = kd at *
            generalize Bo (L2 i) 27 = on at *
            generalize N (L2 i) 28 = p at *
            rw [Nat.add_zero] at m0
            have hcc := cellF hgA
            have hcb := cellF HE2.out.A.bx
            by_cases k3 : kd = 3
            · subst k3
              go_upto_region 20 with fail
              refine wp_only ?_
              refine wp_region_R (S := fun wt => wt.heap[w.heap.size]? = some (.cells #[.int .u32 n] 29 (0, 0)) ∧ wt.heap[ga]? = some (.cells A t fr)) (by kernel_rfl) ⟨HE2.out.A.bx, hgA⟩ ?_
              obtain ⟨wq, hwq⟩ : ∃ wq, wq = wr.drew := ⟨_, rfl⟩
              have HBQ : Below wr.heap.size wr wq := by rw [hwq]; exact Below.drew (Below.refl _ _)
              rw [← hwq]
              clear hwq
              have HST : ∀ wt wt' : World, (wt.heap[w.heap.size]? = some (.cells #[.int .u32 n] 29 (0, 0)) ∧ wt.heap[ga]? = some (.cells A t fr)) → Below wt.heap.size wt wt' → (wt'.heap[w.heap.size]? = some (.cells #[.int .u32 n] 29 (0, 0)) ∧ wt'.heap[ga]? = some (.cells A t fr)) := fun _ _ h hb => ⟨Ytobokknfpjjdeaa.kept hb h.1, Ytobokknfpjjdeaa.kept hb h.2⟩
              (refine wpAnyR_take (i := 0) (v := ?_) rfl (by kernel_rfl) (by kernel_rfl) (by kernel_rfl) (fun _ _ _ h => h) (give_val (by rfl) ?rt_0) ?_); (case rt_0 => (intro wt hS; go_simp; try with_reducible rfl)); (try simp only [Act.put, List.getElem_toArray, List.getElem_cons_zero, List.getElem_cons_succ, List.setIfInBounds_toArray, List.set_cons_zero, List.set_cons_succ])
              (refine wpAnyR_take (i := 1) (v := .int .u32 n) rfl (by kernel_rfl) (by kernel_rfl) (by kernel_rfl) (fun _ _ _ h => h) (give_val (by rfl) ?rt_1) ?_); (case rt_1 => (intro wt hS; (have hcq := cellF hS.1); go_simp; try with_reducible rfl)); (try simp only [Act.put, List.getElem_toArray, List.getElem_cons_zero, List.getElem_cons_succ, List.setIfInBounds_toArray, List.set_cons_zero, List.set_cons_succ])
              (refine wpAnyR_take (i := 2) (v := ?_) rfl (by kernel_rfl) (by kernel_rfl) (by kernel_rfl) (fun _ _ _ h => h) (give_val (by rfl) ?rt_2) ?_); (case rt_2 => (intro wt hS; go_simp; try with_reducible rfl)); (try simp only [Act.put, List.getElem_toArray, List.getElem_cons_zero, List.getElem_cons_succ, List.setIfInBounds_toArray, List.set_cons_zero, List.set_cons_succ]); (refine wpAnyR_take (i := 3) (v := ?_) rfl (by kernel_rfl) (by kernel_rfl) (by kernel_rfl) (fun _ _ _ h => h) (give_val (by rfl) ?rt_3) ?_); (case rt_3 => (intro wt hS; go_simp; try with_reducible rfl)); (try simp only [Act.put, List.getElem_toArray, List.getElem_cons_zero, List.getElem_cons_succ, List.setIfInBounds_toArray, List.set_cons_zero, List.set_cons_succ]); (refine wpAnyR_take (i := 4) (v := ?_) rfl (by kernel_rfl) (by kernel_rfl) (by kernel_rfl) (fun _ _ _ h => h) (give_val (by rfl) ?rt_4) ?_); (case rt_4 => (intro wt hS; go_simp; try with_reducible rfl)); (try simp only [Act.put, List.getElem_toArray, List.getElem_cons_zero, List.getElem_cons_succ, List.setIfInBounds_toArray, List.set_cons_zero, List.set_cons_succ]); (refine wpAnyR_take (i := 5) (v := ?_) rfl (by kernel_rfl) (by kernel_rfl) (by kernel_rfl) (fun _ _ _ h => h) (give_val (by rfl) ?rt_5) ?_); (case rt_5 => (intro wt hS; go_simp; try with_reducible rfl)); (try simp only [Act.put, List.getElem_toArray, List.getElem_cons_zero, List.getElem_cons_succ, List.setIfInBounds_toArray, List.set_cons_zero, List.set_cons_succ])
              (refine wpAnyR_take (i := 6) (v := .bool on) rfl (by kernel_rfl) (by kernel_rfl) (by kernel_rfl) (fun _ _ _ h => h) (give_val (by rfl) ?rt_6) ?_); (case rt_6 => (intro wt hS; (have hcq := cellF hS.2); go_simp; try with_reducible rfl)); (try simp only [Act.put, List.getElem_toArray, List.getElem_cons_zero, List.getElem_cons_succ, List.setIfInBounds_toArray, List.set_cons_zero, List.set_cons_succ])
              (refine wpAnyR_ready (rs := [7]) (by kernel_rfl) (by decide) (fun wd hbd HS => ?_)); refine (AllR.cons rfl (fun K' hK => ?_) AllR.nil)
              rw [if_pos (by rfl)]
              have HBD := Lib.hid (below_then HBQ hbd)
              unfold Oper.wp
              go_simp
              refine (chalt_ap n on (HC2.out.kept HBD.out)).mono ?_
              rintro e w3 ⟨⟨r, rfl⟩, K3, q1, q2, q3, q4⟩
              refine hK.out _ _ ⟨(q3.block _ (by omega)).trans HS.1, (q3.block ga (by omega)).trans HS.2⟩ ?_
              clear hK K'
              (try simp only [Act.put, List.getElem_toArray, List.getElem_cons_zero, List.getElem_cons_succ, List.setIfInBounds_toArray, List.set_cons_zero, List.set_cons_succ])
              refine wpAnyR_done (by kernel_rfl) (fun wz hbz HS => ?_) _
              unfold onlyN
              have hz1 := q1.kept hbz
              have hz2 := Lib.hid (And.intro q2 (((HE2.out.below HBD.out).kv q4 q3).below hbz))
              clear q1 q2 q3 q4 hbz
              go_wp2_with fail
              go_roundg (n2 - (i + 1))
              case measure => omega
              case rel => exact ⟨i + 1, K3, by omega, rfl, by go_num, hz1, HA2.out.trans hz2.out.1 HKC.out HC2.out.con, hz2.out.2⟩
            by_cases k4 : kd = 4
            · subst k4
              go_upto_region 22 with fail
              refine wp_only ?_
              refine wp_region_R (S := fun wt => wt.heap[w.heap.size]? = some (.cells #[.int .u32 n] 29 (0, 0)) ∧ wt.heap[ga]? = some (.cells A t fr)) (by kernel_rfl) ⟨HE2.out.A.bx, hgA⟩ ?_
              obtain ⟨wq, hwq⟩ : ∃ wq, wq = wr.drew := ⟨_, rfl⟩
              have HBQ : Below wr.heap.size wr wq := by rw [hwq]; exact Below.drew (Below.refl _ _)
              rw [← hwq]
              clear hwq
              have HST : ∀ wt wt' : World, (wt.heap[w.heap.size]? = some (.cells #[.int .u32 n] 29 (0, 0)) ∧ wt.heap[ga]? = some (.cells A t fr)) → Below wt.heap.size wt wt' → (wt'.heap[w.heap.size]? = some (.cells #[.int .u32 n] 29 (0, 0)) ∧ wt'.heap[ga]? = some (.cells A t fr)) := fun _ _ h hb => ⟨Ytobokknfpjjdeaa.kept hb h.1, Ytobokknfpjjdeaa.kept hb h.2⟩
              (refine wpAnyR_take (i := 0) (v := ?_) rfl (by kernel_rfl) (by kernel_rfl) (by kernel_rfl) (fun _ _ _ h => h) (give_val (by rfl) ?rt_0) ?_); (case rt_0 => (intro wt hS; go_simp; try with_reducible rfl)); (try simp only [Act.put, List.getElem_toArray, List.getElem_cons_zero, List.getElem_cons_succ, List.setIfInBounds_toArray, List.set_cons_zero, List.set_cons_succ])
              (refine wpAnyR_take (i := 1) (v := .int .u32 n) rfl (by kernel_rfl) (by kernel_rfl) (by kernel_rfl) (fun _ _ _ h => h) (give_val (by rfl) ?rt_1) ?_); (case rt_1 => (intro wt hS; (have hcq := cellF hS.1); go_simp; try with_reducible rfl)); (try simp only [Act.put, List.getElem_toArray, List.getElem_cons_zero, List.getElem_cons_succ, List.setIfInBounds_toArray, List.set_cons_zero, List.set_cons_succ])
              (refine wpAnyR_take (i := 2) (v := ?_) rfl (by kernel_rfl) (by kernel_rfl) (by kernel_rfl) (fun _ _ _ h => h) (give_val (by rfl) ?rt_2) ?_); (case rt_2 => (intro wt hS; go_simp; try with_reducible rfl)); (try simp only [Act.put, List.getElem_toArray, List.getElem_cons_zero, List.getElem_cons_succ, List.setIfInBounds_toArray, List.set_cons_zero, List.set_cons_succ]); (refine wpAnyR_take (i := 3) (v := ?_) rfl (by kernel_rfl) (by kernel_rfl) (by kernel_rfl) (fun _ _ _ h => h) (give_val (by rfl) ?rt_3) ?_); (case rt_3 => (intro wt hS; go_simp; try with_reducible rfl)); (try simp only [Act.put, List.getElem_toArray, List.getElem_cons_zero, List.getElem_cons_succ, List.setIfInBounds_toArray, List.set_cons_zero, List.set_cons_succ]); (refine wpAnyR_take (i := 4) (v := ?_) rfl (by kernel_rfl) (by kernel_rfl) (by kernel_rfl) (fun _ _ _ h => h) (give_val (by rfl) ?rt_4) ?_); (case rt_4 => (intro wt hS; go_simp; try with_reducible rfl)); (try simp only [Act.put, List.getElem_toArray, List.getElem_cons_zero, List.getElem_cons_succ, List.setIfInBounds_toArray, List.set_cons_zero, List.set_cons_succ]); (refine wpAnyR_take (i := 5) (v := ?_) rfl (by kernel_rfl) (by kernel_rfl) (by kernel_rfl) (fun _ _ _ h => h) (give_val (by rfl) ?rt_5) ?_); (case rt_5 => (intro wt hS; go_simp; try with_reducible rfl)); (try simp only [Act.put, List.getElem_toArray, List.getElem_cons_zero, List.getElem_cons_succ, List.setIfInBounds_toArray, List.set_cons_zero, List.set_cons_succ])
              (refine wpAnyR_take (i := 6) (v := .int .i64 p) rfl (by kernel_rfl) (by kernel_rfl) (by kernel_rfl) (fun _ _ _ h => h) (give_val (by rfl) ?rt_6) ?_); (case rt_6 => (intro wt hS; (have hcq := cellF hS.2); go_simp; try with_reducible rfl)); (try simp only [Act.put, List.getElem_toArray, List.getElem_cons_zero, List.getElem_cons_succ, List.setIfInBounds_toArray, List.set_cons_zero, List.set_cons_succ])
              (refine wpAnyR_ready (rs := [7]) (by kernel_rfl) (by decide) (fun wd hbd HS => ?_)); refine (AllR.cons rfl (fun K' hK => ?_) AllR.nil)
              rw [if_pos (by rfl)]
              have HBD := Lib.hid (below_then HBQ hbd)
              unfold Oper.wp
              go_simp
              refine (cpub_ap n p hf (HC2.out.kept HBD.out)).mono ?_
              rintro e w3 ⟨⟨r, rfl⟩, K3, q1, q2, q3, q4⟩
              refine hK.out _ _ ⟨(q3.block _ (by omega)).trans HS.1, (q3.block ga (by omega)).trans HS.2⟩ ?_
              clear hK K'
              (try simp only [Act.put, List.getElem_toArray, List.getElem_cons_zero, List.getElem_cons_succ, List.setIfInBounds_toArray, List.set_cons_zero, List.set_cons_succ])
              refine wpAnyR_done (by kernel_rfl) (fun wz hbz HS => ?_) _
              unfold onlyN
              have hz1 := q1.kept hbz
              have hz2 := Lib.hid (And.intro q2 (((HE2.out.below HBD.out).kv q4 q3).below hbz))
              clear q1 q2 q3 q4 hbz
              go_wp2_with fail
              go_roundg (n2 - (i + 1))
              case measure => omega
              case rel => exact ⟨i + 1, K3, by omega, rfl, by go_num, hz1, HA2.out.trans hz2.out.1 HKC.out HC2.out.con, hz2.out.2⟩
            by_cases k5 : kd = 5
            · subst k5
              go_wp2_with ((go_at_call 35; (with_reducible refine (cdue_ap n HC2.out).mono ?_); rintro e w3 ⟨⟨r, rfl⟩, K3, q1, q2, q3, q4⟩))
              go_roundg (n2 - (i + 1))
              case measure => omega
              case rel => exact ⟨i + 1, K3, by omega, rfl, by go_num, q1, HA2.out.trans q2 HKC.out HC2.out.con, HE2.out.kv q4 q3⟩
            by_cases k6 : kd = 6
            · subst k6
              go_wp2_with ((go_at_call 27; (with_reducible refine (cexp_ap n HC2.out).mono ?_); rintro e w3 ⟨⟨r, rfl⟩, K3, q1, q2, q3, q4⟩))
              go_roundg (n2 - (i + 1))
              case measure => omega
              case rel => exact ⟨i + 1, K3, by omega, rfl, by go_num, q1, HA2.out.trans q2 HKC.out HC2.out.con, HE2.out.kv q4 q3⟩
            go_wp2_with fail
            go_roundg (n2 - (i + 1))
            case measure => omega
            case rel => exact ⟨i + 1, K2, by omega, rfl, by go_num, HC2.out, HA2.out, HE2.out⟩
          · obtain rfl : i = n2 := by omega
            have HC2 := Lib.hid hC
            have HE2 := Lib.hid hE2
            have HA2 := Lib.hid hA2
            obtain ⟨a9, c9, rfl, hR9, _⟩ := own_rows (c := 27) (fun i => (HKC.out i).size) HE2.out.ow
            have HR9 := Lib.hid hR9
            clear hC hE2 hA2 hR9
            go_wp2_with (first | (go_at_call 34; (with_reducible refine (call_any _).mono ?_); rintro e w6 ⟨rfl, rfl⟩))
            refine wp_gen (fun u => #[u 0, u 1, .slice a2 i c2, u 3, .pointer (some ⟨w.heap.size, 0, none⟩), u 5, .pointer (some ⟨w.heap.size + 1, 0, none⟩), .pointer (some ⟨w.heap.size + 1 + 1, 0, none⟩), u 8, .pointer (some ⟨bw, 0, none⟩), u 10, u 11, .pointer (some ⟨wr.heap.size, 0, none⟩), u 13, u 14, u 15, u 16, u 17, u 18, u 19, u 20, u 21, u 22, u 23, u 24, u 25, u 26, u 27, u 28, u 29, u 30, u 31, u 32, u 33, u 34, u 35, u 36, u 37, u 38, u 39, u 40, u 41, u 42, u 43, u 44, u 45, u 46, u 47, u 48, u 49, u 50, u 51, u 52, u 53, u 54, u 55, u 56, u 57, u 58, u 59, u 60, u 61, u 62, u 63, u 64, u 65, u 66, u 67, u 68, u 69, u 70, u 71, u 72, u 73, u 74, u 75, u 76, u 77, u 78, u 79, u 80, u 81, u 82, u 83, u 84, u 85, u 86, u 87, u 88, u 89, u 90, u 91, u 92, u 93, u 94, u 95, u 96, u 97, u 98, .func (.func 66) #[] #[.pointer (some ⟨wr.heap.size + 1 + 1, 0, none⟩)], u 100, u 101, u 102, u 103, u 104, u 105, u 106, u 107, u 108, u 109, u 110, u 111, u 112, u 113, u 114, u 115, u 116, u 117, u 118, u 119, u 120, u 121, u 122, u 123, u 124, u 125, u 126, u 127, u 128, u 129, u 130, u 131, u 132, u 133, u 134, u 135, u 136, u 137, u 138, u 139, u 140, u 141, u 142, u 143]) (by rfl) (fun u => ?_)
            obtain ⟨w6, hw6⟩ : ∃ w6, w6 = (((wr.alloc (Obj.cells #[Value.int IntKind.i64 0] 3)).alloc (Obj.cells #[Value.pointer (some ⟨w.heap.size + 1 + 1, 0, none⟩)] 56)).alloc (Obj.cells #[Value.pointer (some ⟨w.heap.size + 1 + 1, 0, none⟩)] 56)) := ⟨_, rfl⟩
            have hB6 : Below wr.heap.size wr w6 := by rw [hw6]; exact below_alloc (below_alloc (below_new _ _) _) _
            have m9 : w6.heap[wr.heap.size]? = some (.cells #[.int .i64 0] 3 (0, 0)) := by rw [hw6]; exact heap_up (heap_up (heap_alloc_new _ _))
            have mb : w6.heap[wr.heap.size + 1 + 1]? = some (.cells #[.pointer (some ⟨w.heap.size + 1 + 1, 0, none⟩)] 56 (0, 0)) := by
              rw [hw6]
              have := heap_alloc_new ((wr.alloc (Obj.cells #[Value.int IntKind.i64 0] 3)).alloc (Obj.cells #[Value.pointer (some ⟨w.heap.size + 1 + 1, 0, none⟩)] 56)) (Obj.cells #[Value.pointer (some ⟨w.heap.size + 1 + 1, 0, none⟩)] 56)
              simpa using this
            have hz6 : w6.heap.size = wr.heap.size + 3 := by rw [hw6]; simp
            rw [← hw6]
            clear hw6
            have HC6 := Lib.hid (HC2.out.kept hB6)
            refine range_rounds (gf := 66) (lb := #[.pointer (some ⟨wr.heap.size + 1 + 1, 0, none⟩)]) (encs := fun j => #[.agg (K2 j)]) (k := k) rfl (enters_of Try.func66 (by kernel_rfl) rfl) (fun _ => rfl) (call_seq mb HC6.out (Nat.le_refl _))
              (fun j W => W.heap[wr.heap.size]? = some (.cells #[.int .i64 (j : Int)] 3 (0, 0)) ∧ Below wr.heap.size wr W) (fun c j W => False) ?oI ?oX ?i0 (fun j W => W.alloc (.cells (K2 j) 65)) (fun j W => World.grownBy_alloc W _ none)
              (fun j W0 => { tmps := #[u 0, u 1, .slice a2 i c2, u 3, .pointer (some ⟨w.heap.size, 0, none⟩), u 5, .pointer (some ⟨w.heap.size + 1, 0, none⟩), .pointer (some ⟨w.heap.size + 1 + 1, 0, none⟩), u 8, .pointer (some ⟨bw, 0, none⟩), u 10, u 11, .pointer (some ⟨wr.heap.size, 0, none⟩), .pointer (some ⟨W0.heap.size, 0, none⟩), u 14, u 15, u 16, u 17, u 18, u 19, u 20, u 21, u 22, u 23, u 24, u 25, u 26, u 27, u 28, u 29, u 30, u 31, u 32, u 33, u 34, u 35, u 36, u 37, u 38, u 39, u 40, u 41, u 42, u 43, u 44, u 45, u 46, u 47, u 48, u 49, u 50, u 51, u 52, u 53, u 54, u 55, u 56, u 57, u 58, u 59, u 60, u 61, u 62, u 63, u 64, u 65, u 66, u 67, u 68, u 69, u 70, u 71, u 72, u 73, u 74, u 75, u 76, u 77, u 78, u 79, u 80, u 81, u 82, u 83, u 84, u 85, u 86, u 87, u 88, u 89, u 90, u 91, u 92, u 93, u 94, u 95, u 96, u 97, u 98, .func (.func 66) #[] #[.pointer (some ⟨wr.heap.size + 1 + 1, 0, none⟩)], .agg (K2 j), u 101, u 102, u 103, u 104, u 105, u 106, u 107, u 108, u 109, u 110, u 111, u 112, u 113, u 114, u 115, u 116, u 117, u 118, u 119, u 120, u 121, u 122, u 123, u 124, u 125, u 126, u 127, u 128, u 129, u 130, u 131, u 132, u 133, u 134, u 135, u 136, u 137, u 138, u 139, u 140, u 141, u 142, u 143], defers := [] }) ?assign ?body ?done ?stop
            case oI => exact OwnFrom.and ownFrom_cells (ownFrom_below (by omega) (by omega))
            case oX => exact fun _ _ _ _ _ h => h.elim
            case i0 => exact ⟨m9, hB6⟩
            case stop => exact fun _ _ _ _ _ _ h _ => h.elim
            case assign =>
              intro l j W K' hj hK
              have hO := HC6.out.con j
              have hsz := hO.size
              refine wpIn_lit (t := #[u 0, u 1, .slice a2 i c2, u 3, .pointer (some ⟨w.heap.size, 0, none⟩), u 5, .pointer (some ⟨w.heap.size + 1, 0, none⟩), .pointer (some ⟨w.heap.size + 1 + 1, 0, none⟩), u 8, .pointer (some ⟨bw, 0, none⟩), u 10, u 11, .pointer (some ⟨wr.heap.size, 0, none⟩), u 13, u 14, u 15, u 16, u 17, u 18, u 19, u 20, u 21, u 22, u 23, u 24, u 25, u 26, u 27, u 28, u 29, u 30, u 31, u 32, u 33, u 34, u 35, u 36, u 37, u 38, u 39, u 40, u 41, u 42, u 43, u 44, u 45, u 46, u 47, u 48, u 49, u 50, u 51, u 52, u 53, u 54, u 55, u 56, u 57, u 58, u 59, u 60, u 61, u 62, u 63, u 64, u 65, u 66, u 67, u 68, u 69, u 70, u 71, u 72, u 73, u 74, u 75, u 76, u 77, u 78, u 79, u 80, u 81, u 82, u 83, u 84, u 85, u 86, u 87, u 88, u 89, u 90, u 91, u 92, u 93, u 94, u 95, u 96, u 97, u 98, .func (.func 66) #[] #[.pointer (some ⟨wr.heap.size + 1 + 1, 0, none⟩)], .agg (K2 j), u 101, u 102, u 103, u 104, u 105, u 106, u 107, u 108, u 109, u 110, u 111, u 112, u 113, u 114, u 115, u 116, u 117, u 118, u 119, u 120, u 121, u 122, u 123, u 124, u 125, u 126, u 127, u 128, u 129, u 130, u 131, u 132, u 133, u 134, u 135, u 136, u 137, u 138, u 139, u 140, u 141, u 142, u 143]) (by simp) ?_
              gi_wp2_with (first | ((with_reducible refine at_allocIn 65 ?_); refine wpListIn_alloc_named rfl 65 rfl (cz) (by kernel_rfl) ?_) | ((with_reducible refine at_storeIn 65 ?_); refine wpListIn_store_new rfl 65 _ _ rfl (K2 j) _ _ _ rfl (by simp) rfl (by rw [hsz]; kernel_rfl) (by rw [hsz]; rfl) (hO.all) ?_))
              exact hK
            case body =>
              rintro l j W0 W hj ⟨hbi, hB⟩ hsW hup _
              have hv := hup _ _ _ _ (heap_alloc_new W0 (Obj.cells (K2 j) 65))
              have hEW := HE2.out.below hB
              have hm9 := hEW.bx
              have hm4 := hEW.A.bx
              obtain ⟨gr, ro, RB, rf, rfl, hgr, hrs, hre⟩ := (rowsT_kept HR9.out hB) j hj
              have hO := HC6.out.con j
              have hOY := HKC.out j
              obtain ⟨bq, hbq0, hbq1⟩ := neq_con_any hO hOY
              have hsame := (HA2.out j hj).1
              have hoth := (HA2.out j hj).2
              have hnum := HA2.out.num hOY hO hj
              have hn25 := neq_spec hO.sp
              have hx0 := hO.c0.1
              have hx0' : ∀ h : 0 < (K2 j).size, (K2 j)[0]'h = .int .u32 (N (K2 j) 0) := fun h => by rw [Array.getElem?_eq_getElem h] at hx0; exact Option.some.inj hx0
              have hsz := hO.size
              have hk16 := HC6.out.hk
              have hre25 : RB.extract (ro + j * 27) (ro + j * 27 + 25) = (K2 j).extract 0 25 := by
                rw [hsame, ← hre]
                simp only [Array.extract_extract]
                congr 1
                omega
              have hrs25 : ro + j * 27 + 25 ≤ RB.size := by omega
              have hex : (K2 j).extract 0 (0 + 27) = K2 j := by rw [show 0 + 27 = (K2 j).size by rw [hsz]]; simp
              have hvs : 0 + 27 ≤ (K2 j).size := by omega
              have hvs25 : 0 + 25 ≤ (K2 j).size := by omega
              have wj : IntKind.i64.wrap ((j : Int) + 1) = (j : Int) + 1 := by rw [IntKind.wrap_i64]; omega
              have hjk : ¬ (k : Int) ≤ (j : Int) := by omega
              have hjk2 : ¬ k ≤ j := by omega
              have hji : (j : Int) < k := by omega
              rw [← hnum] at hoth
              clear hnum
              generalize N (K2 j) 0 = num at *
              generalize K2 j = X at *
              generalize K j = Y at *
              have HB := Lib.hid hB
              have HO := Lib.hid (And.intro hsame (And.intro hO hOY))
              clear hsame hO hOY hB hEW hup
              obtain ⟨gv, hgv⟩ : ∃ gv, gv = W0.heap.size := ⟨_, rfl⟩
              rw [← hgv] at hv
              rw [← hgv]
              clear hgv
              obtain ⟨bi, hbie⟩ : ∃ bi, bi = wr.heap.size := ⟨_, rfl⟩
              rw [← hbie] at hbi
              have HBI := Lib.hid hbie
              rw [← hbie]
              clear hbie
              refine wpIn_block (wpIn_seq (wpIn_seq ?_))
              cases bq
              · refine wpIn_region_below (by kernel_rfl) (by kernel_rfl) (by kernel_rfl) ?_
                repeat (first | ((with_reducible apply q_skip); (case hw => rfl); (try simp only [Act.put, List.setIfInBounds_toArray, List.set_cons_zero, List.set_cons_succ])) | ((with_reducible refine at_qload 61 ?_); refine q_load_part (by rfl) 61 _ rfl (gv) (0) rfl _ (X) _ 25 (hv) Try.underlying61 rfl (by kernel_rfl) (hvs25) (X.extract 0 25) (rfl) ?_; try simp only [Act.put, List.setIfInBounds_toArray, List.set_cons_zero, List.set_cons_succ]) | ((with_reducible refine at_qload 61 ?_); refine q_load_fr (by rfl) 61 _ rfl (gr) (ro + j * 27) rfl _ (RB) _ _ 25 (hgr) Try.underlying61 rfl (by kernel_rfl) (hrs25) (X.extract 0 25) (hre25) ?_; try simp only [Act.put, List.setIfInBounds_toArray, List.set_cons_zero, List.set_cons_succ]) | ((with_reducible refine at_qload 65 ?_); refine q_load_part (by rfl) 65 _ rfl (gv) (0) rfl _ (X) _ 27 (hv) Try.underlying65 rfl (by kernel_rfl) (hvs) (X) (hex) ?_; try simp only [Act.put, List.setIfInBounds_toArray, List.set_cons_zero, List.set_cons_succ]) | ((with_reducible refine at_qload 65 ?_); refine q_load_fr (by rfl) 65 _ rfl (gr) (ro + j * 27) rfl _ (RB) _ _ 27 (hgr) Try.underlying65 rfl (by kernel_rfl) (hrs) (Y) (hre) ?_; try simp only [Act.put, List.setIfInBounds_toArray, List.set_cons_zero, List.set_cons_succ]) | ((with_reducible apply q_val); (case hw => rfl); (case hv => intro wq hbq; have hcq := cellF (Ytobokknfpjjdeaa.kept hbq hm9); have hcr := cellF (Ytobokknfpjjdeaa.kept hbq hm4); have hcn := cellF (Ytobokknfpjjdeaa.kept hbq hbi); have hcx := cellF (Ytobokknfpjjdeaa.kept hbq hv); go_simp; try rfl); (try simp only [Act.put, List.setIfInBounds_toArray, List.set_cons_zero, List.set_cons_succ])))
                refine q_nil ?_
                intro w8 hb8
                have n5 := Ytobokknfpjjdeaa.kept hb8 hbi
                have c5 := cellF n5
                have f5 := (cells_of n5).2.1
                gi_wp2_with fail
                have ho : ∀ i, i ≠ bi → (w8.setCell ⟨bi, 0, none⟩ (.int .i64 ((j : Int) + 1))).heap[i]? = w8.heap[i]? := fun i hi => heap_setCell_other w8 _ _ _ hi
                have hbl := HBI.out
                exact ⟨(ko_below hb8).trans (KeepsOthers.setCell _ _ _), (kn_below hb8).trans (kn_set (g := bi) (by omega) ho), by have := heap_set (i := 0) (v := .int .i64 ((j : Int) + 1)) n5; exact this, below_set (show Below bi wr w8 by rw [HBI.out]; exact below_then HB.out hb8) (by omega)⟩
              · have hnn0 : num = n := by
                  apply Classical.byContradiction
                  intro hne0
                  exact absurd (hbq1 (hoth hne0)) (by decide)
                subst hnn0
                have hq127 : ∀ w : World, (binOp .neq 29 (.int .u32 num) (.int .u32 num)).run Try.prog w = .ok (.bool false) w := fun w => by
                  have h1 : (binOp .neq 29 (.int .u32 num) (.int .u32 num)).run Try.prog w = .ok (.bool (!decide (num = num))) w := by rfl
                  rw [h1]; simp
                refine wpIn_region_below (by kernel_rfl) (by kernel_rfl) (by kernel_rfl) ?_
                repeat (first | ((with_reducible apply q_skip); (case hw => rfl); (try simp only [Act.put, List.setIfInBounds_toArray, List.set_cons_zero, List.set_cons_succ])) | ((with_reducible refine at_qload 61 ?_); refine q_load_part (by rfl) 61 _ rfl (gv) (0) rfl _ (X) _ 25 (hv) Try.underlying61 rfl (by kernel_rfl) (hvs25) (X.extract 0 25) (rfl) ?_; try simp only [Act.put, List.setIfInBounds_toArray, List.set_cons_zero, List.set_cons_succ]) | ((with_reducible refine at_qload 61 ?_); refine q_load_fr (by rfl) 61 _ rfl (gr) (ro + j * 27) rfl _ (RB) _ _ 25 (hgr) Try.underlying61 rfl (by kernel_rfl) (hrs25) (X.extract 0 25) (hre25) ?_; try simp only [Act.put, List.setIfInBounds_toArray, List.set_cons_zero, List.set_cons_succ]) | ((with_reducible refine at_qload 65 ?_); refine q_load_part (by rfl) 65 _ rfl (gv) (0) rfl _ (X) _ 27 (hv) Try.underlying65 rfl (by kernel_rfl) (hvs) (X) (hex) ?_; try simp only [Act.put, List.setIfInBounds_toArray, List.set_cons_zero, List.set_cons_succ]) | ((with_reducible refine at_qload 65 ?_); refine q_load_fr (by rfl) 65 _ rfl (gr) (ro + j * 27) rfl _ (RB) _ _ 27 (hgr) Try.underlying65 rfl (by kernel_rfl) (hrs) (Y) (hre) ?_; try simp only [Act.put, List.setIfInBounds_toArray, List.set_cons_zero, List.set_cons_succ]) | ((with_reducible apply q_val); (case hw => rfl); (case hv => intro wq hbq; have hcq := cellF (Ytobokknfpjjdeaa.kept hbq hm9); have hcr := cellF (Ytobokknfpjjdeaa.kept hbq hm4); have hcn := cellF (Ytobokknfpjjdeaa.kept hbq hbi); have hcx := cellF (Ytobokknfpjjdeaa.kept hbq hv); go_simp; try rfl); (try simp only [Act.put, List.setIfInBounds_toArray, List.set_cons_zero, List.set_cons_succ])))
                refine q_nil ?_
                intro w8 hb8
                have n5 := Ytobokknfpjjdeaa.kept hb8 hbi
                have c5 := cellF n5
                have f5 := (cells_of n5).2.1
                gi_wp2_with fail
                have ho : ∀ i, i ≠ bi → (w8.setCell ⟨bi, 0, none⟩ (.int .i64 ((j : Int) + 1))).heap[i]? = w8.heap[i]? := fun i hi => heap_setCell_other w8 _ _ _ hi
                have hbl := HBI.out
                exact ⟨(ko_below hb8).trans (KeepsOthers.setCell _ _ _), (kn_below hb8).trans (kn_set (g := bi) (by omega) ho), by have := heap_set (i := 0) (v := .int .i64 ((j : Int) + 1)) n5; exact this, below_set (show Below bi wr w8 by rw [HBI.out]; exact below_then HB.out hb8) (by omega)⟩
            case done =>
              rintro D2 W hD2 ⟨hbi, hB⟩ hK
              have HEW := Lib.hid (HE2.out.below hB)
              have HCW := Lib.hid (HC2.out.kept hB)
              have HD2 := Lib.hid hD2
              have hm9 := cellF HEW.out.bx
              have hcn := cellF hbi
              have hDlt : D < wr.heap.size := (Array.getElem?_eq_some_iff.1 HE2.out.dD).1
              have hDD : D ≠ D2 := by omega
              have hDr : D2 ≠ w.heap.size + 1 := by have := (Array.getElem?_eq_some_iff.1 HE2.out.A.rs).1; omega
              have hD1 : D ≠ w.heap.size + 1 := by have := HE2.out.hg; have := HE2.out.dl; omega
              clear hB hD2 hbi
              dsimp only
              go_wp2_with (first | (go_at_call 36; (with_reducible refine (cday_yes HCW.out).mono ?_); rintro e w10 ⟨rfl, rfl⟩) | (go_at_call 24; (with_reducible refine (known05 _).mono ?_); rintro e w11 ⟨rfl, hb11⟩; have hEn := HEW.out.below hb11; have q4 := hEn.A.rs; have qD := hEn.dD; have qD2 := Ytobokknfpjjdeaa.kept hb11 hK; have c4 := cellF q4; have f4 := (cells_of q4).2.1; have qB := hEn.A.be))
              have hs0 := heap_set (i := 0) (v := .bool true) q4
              have hz2 := heap_set_other (g := w.heap.size + 1) (i := 0) (v := .bool true) qD2 hDr
              have hz1 := heap_set_other (g := w.heap.size + 1) (i := 0) (v := .bool true) qD hD1
              have hBz := below_set (i := 0) (v := .bool true) qB (show w.heap.size ≤ w.heap.size + 1 by omega)
              refine leaves_cons hz2 (leaves_cons (put_other hz2 hz1 hDD) ?_)
              have hr1 := put_other (o' := .deferred none) hz2 hs0 (Ne.symm hDr)
              have hr2 := put_other (o' := .deferred none) (put_other (o' := .deferred none) hz2 hz1 hDD) hr1 (Ne.symm hD1)
              have hc := cellF hr2 0
              have hl1 := HEW.out.dl
              have hl2 := HEW.out.hg
              have hl3 := HD2.out
              refine leaves_nil (v := .bool true) ?_ ⟨rfl, below_put (below_put hBz (by omega) hz2 (Nat.le_refl _)) (by omega) (put_other hz2 hz1 hDD) (Nat.le_refl _)⟩
              simp [results, Try.f8, go_sem, hc]
end Go.Proofs.Ytobokknfpjjdeaa
