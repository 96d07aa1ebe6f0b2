/- SideFair, walked: it returns true. No condition. -/
import Derived.Test.YtobokknfpjjdeaaFairP
import Derived.Test.YtobokknfpjjdeaaKnown06
import Derived.Test.YtobokknfpjjdeaaOpIn06
import Derived.Test.YtobokknfpjjdeaaMarks
import Derived.Deep.CutBlock
namespace Go.Proofs.Ytobokknfpjjdeaa
set_option linter.unusedVariables false
set_option linter.unusedSimpArgs false
open Go.RowKit Go.Shelf
attribute [local go_sem] Oper.semAt_some

/-- what lies there all the time -/
structure Fenv (buy : Bool) (w : World) (Ds : List Nat) (wr : World) : Prop where
  bx : wr.heap[w.heap.size]? = some (.cells #[.bool buy] 4 (0, 0))
  rs : wr.heap[w.heap.size + 1]? = some (.cells #[.bool false] 4 (0, 0))
  be : Below w.heap.size w wr
  ds : ∀ D, D ∈ Ds → w.heap.size ≤ D ∧ wr.heap[D]? = some (.deferred (some []))
  nd : Ds.Nodup
theorem Fenv.kept {buy : Bool} {w wr w' : World} {Ds : List Nat} (h : Fenv buy w Ds wr) (hb : Below wr.heap.size wr w') : Fenv buy w Ds w' :=
  ⟨Ytobokknfpjjdeaa.kept hb h.bx, Ytobokknfpjjdeaa.kept hb h.rs, below_then h.be hb, fun D hD => ⟨(h.ds D hD).1, Ytobokknfpjjdeaa.kept hb (h.ds D hD).2⟩, h.nd⟩
theorem Fenv.left {buy : Bool} {w wr w' : World} {Ds : List Nat} {nx : Int} (h : Fenv buy w Ds wr) (hl : Left (w.heap.size + 1 + 1) (w.heap.size + 1 + 1) buy nx wr w') (hg : ∃ c t fr, wr.heap[w.heap.size + 1 + 1]? = some (.cells c t fr)) : Fenv buy w Ds w' := by
  obtain ⟨k, L, _, _, hb, hk⟩ := hl
  obtain ⟨c, t, fr, hg⟩ := hg
  exact ⟨(hb.block _ (by omega)).trans h.bx, (hb.block _ (by omega)).trans h.rs, h.be.trans (hb.mono (by omega)), fun D hD => ⟨(h.ds D hD).1, hk D _ (fun _ _ e => by cases e) (fun e => by subst e; rw [(h.ds _ hD).2] at hg; cases hg) (h.ds D hD).2⟩, h.nd⟩
theorem Fenv.more {buy : Bool} {w wr : World} {Ds : List Nat} {D : Nat} (h : Fenv buy w Ds wr) (hle : w.heap.size ≤ D) (hn : D ∉ Ds) (hK : wr.heap[D]? = some (.deferred (some []))) : Fenv buy w (D :: Ds) wr :=
  ⟨h.bx, h.rs, h.be, fun E hE => by
    rcases List.mem_cons.1 hE with rfl | hE
    · exact ⟨hle, hK⟩
    · exact h.ds E hE, List.nodup_cons.2 ⟨hn, h.nd⟩⟩
def FREL (buy : Bool) (n : Nat) (w : World) (Ds : List Nat) (gh : Nat) (v6 v29 : Value) (wr : World) : Prop :=
  ∃ (j k : Nat) (K : Nat → Array Value) (nx : Int), j ≤ n ∧ gh = n - j ∧ v29 = .int .i64 j ∧ v6 = .int .u64 nx ∧ 1 ≤ nx ∧ nx ≤ j + 1 ∧ SideIs wr (w.heap.size + 1 + 1) (w.heap.size + 1 + 1) k buy K ∧ FI buy K k nx ∧ Fenv buy w Ds wr
theorem ord_b {O : Array Value} {buy : Bool} {nx : Int} (h : IsOrd O) (hx : 0 ≤ nx ∧ nx ≤ 18446744073709551615) : IsOrd ((O.setIfInBounds 2 (.bool buy)).setIfInBounds 0 (.int .u64 nx)) ∧ N ((O.setIfInBounds 2 (.bool buy)).setIfInBounds 0 (.int .u64 nx)) 0 = nx := by
  have hs := h.size
  have m : ∀ {k : IntKind} {i : Nat}, i ≠ 0 → i ≠ 2 → IsN O k i → IsN ((O.setIfInBounds 2 (.bool buy)).setIfInBounds 0 (.int .u64 nx)) k i := fun h0 h2 hN => hN.moved (by rw [Array.getElem?_setIfInBounds_ne (Ne.symm h0), Array.getElem?_setIfInBounds_ne (Ne.symm h2)])
  have e0 : ((O.setIfInBounds 2 (.bool buy)).setIfInBounds 0 (.int .u64 nx))[0]? = some (.int .u64 nx) := by rw [Array.getElem?_setIfInBounds_self, if_pos (by simp; omega)]
  refine ⟨⟨by simp [hs], IsN_of e0 ⟨hx.1, hx.2⟩, m (by decide) (by decide) h.a, IsB_of (b := buy) ?_, m (by decide) (by decide) h.p, m (by decide) (by decide) h.l⟩, by unfold N; rw [e0]⟩
  rw [Array.getElem?_setIfInBounds_ne (by omega), Array.getElem?_setIfInBounds_self, if_pos (by omega)]
theorem Left.from {w w1 w' : World} {g base : Nat} {buy : Bool} {nx : Int} (hb : Below w.heap.size w w1) (hle : base ≤ w.heap.size) (h : Left g base buy nx w1 w') : Left g base buy nx w w' := by
  obtain ⟨k, L, h1, h2, h3, h4⟩ := h
  exact ⟨k, L, h1, h2, (hb.mono hle).trans h3, (ko_below hb).trans h4⟩
theorem ex_act {T : Array Value} {ds : List Deferred} {p : (Nat → Value) → Prop} {lit : (Nat → Value) → Array Value} (h1 : p (fun i => T.getD i undef)) (h2 : T = lit (fun i => T.getD i undef)) : ∃ u, p u ∧ (⟨T, ds⟩ : Act) = ⟨lit u, ds⟩ :=
  ⟨_, h1, by rw [← h2]⟩
/-- a relation behind a name, so that the walk stops at it -/
def Held (I : Act → World → Prop) (a : Act) (w : World) : Prop := I a w
theorem Held.mk {I : Act → World → Prop} {a : Act} {w : World} (h : I a w) : Held I a w := h
/-- what follows a statement is walked once -/
theorem cut_then {P : Program} {c : Code} {Q : Exit → Act → World → Prop} {K : Act → World → Prop} {a : Act} {w : World} (I : Act → World → Prop) (h1 : ∀ J, J = Held I → c.wp P (Exit.then J Q) a w) (h2 : ∀ a w, I a w → K a w) : c.wp P (Exit.then K Q) a w := by
  refine wp_mono (h1 _ rfl) (fun e a w h => ?_)
  cases e with
  | normal => exact h2 a w h
  | _ => exact h
theorem close_round {J I : Nat → Act → World → Prop} {n : Nat} {a : Act} {w : World} (hJ : ∀ k a w, I k a w → J k a w) (k : Nat) (hk : k < n) (h : I k a w) : Handed J n a w := Handed.intro k hk (hJ _ _ _ h)
theorem wpIn_lit' {F : Fence} {n : Nat} {P : Program} {c : Code} {Q : Exit → Act → World → Prop} {a : Array Value} (t : Array Value) {ds : List Deferred} {w : World} (h : a = t) (hh : c.wpIn F n P Q ⟨t, ds⟩ w) : c.wpIn F n P Q ⟨a, ds⟩ w := by rw [h]; exact hh
/-- the order that came last -/
def lastA (K : Nat → Array Value) (r : Nat) : Array Value := if r = 0 then zo else K (r - 1)
theorem wp_lit {P : Program} {c : Code} {Q : Exit → Act → World → Prop} {a t : Array Value} {ds : List Deferred} {w : World} (h : a = t) (hh : c.wp P Q ⟨t, ds⟩ w) : c.wp P Q ⟨a, ds⟩ w := by rw [h]; exact hh
set_option maxRecDepth 100000 in
set_option maxHeartbeats 1000000 in
theorem fair06_walk (buy : Bool) (a : Option Addr) (n c : Nat) (L : Nat → Array Value) (w : World) (hL : ∀ i, IsOp (L i)) (hl : RowsC w 7 a n L) (hn : n ≤ c) (hc : c ≤ 9223372036854775807) (hz : a = none → n = 0 ∧ c = 0) :
    Calls Try.prog 4 #[.bool buy, .slice a n c] w fun e w' => e = .returned (.bool true) ∧ Below w.heap.size w w' := by
  have hne : ∀ (w : World) (g : Nat), (binOp .eql 23 (.pointer (some ⟨g, 0, none⟩)) (.pointer none)).run Try.prog w = .ok (.bool false) w := fun _ _ => by kernel_rfl
  have hnn : ∀ (w : World) (g : Nat), (binOp .neq 23 (.pointer (some ⟨g, 0, none⟩)) (.pointer none)).run Try.prog w = .ok (.bool true) w := fun _ _ => by kernel_rfl
  have HL := Lib.hid hL
  have HR := Lib.hid hl
  clear hL hl hz
  refine calls_marks Try.func4 rfl ?_
  simp only [Try.ntmps4, List.size_toArray, List.length_cons, List.length_nil, Nat.reduceAdd, Nat.reduceSub, Array.replicate_succ, Array.replicate_zero, List.push_toArray, List.append_toArray, List.nil_append, List.cons_append]
  have hbx : Below w.heap.size w ((w.alloc (Obj.cells #[.bool buy] 4)).alloc (Obj.cells #[.bool false] 4)) := below_alloc (below_new _ _) _
  have hb2 : ((w.alloc (Obj.cells #[.bool buy] 4)).alloc (Obj.cells #[.bool false] 4)).heap[w.heap.size]? = some (.cells #[.bool buy] 4 (0, 0)) := heap_up (heap_alloc_new _ _)
  have hr2 : ((w.alloc (Obj.cells #[.bool buy] 4)).alloc (Obj.cells #[.bool false] 4)).heap[w.heap.size + 1]? = some (.cells #[.bool false] 4 (0, 0)) := by
    have := heap_alloc_new (w.alloc (Obj.cells #[.bool buy] 4)) (Obj.cells #[.bool false] 4)
    simpa using this
  by_cases hbig : 150 < n
  · have hbz : (150 : Int) < n := by omega
    go_wp2_with (first | (go_at_call 11; (with_reducible refine (new_side _ _).mono ?_); rintro e w1 ⟨rfl, hN1, hb1⟩) | (go_at_call 12; (with_reducible refine (known06 _).mono ?_); rintro e w9 ⟨rfl, hb9⟩; have c9 := cellF (Ytobokknfpjjdeaa.kept hb9 (Ytobokknfpjjdeaa.kept hb1 hr2)); have f9 := (cells_of (Ytobokknfpjjdeaa.kept hb9 (Ytobokknfpjjdeaa.kept hb1 hr2))).2.1))
    have hs9 := heap_set (i := 0) (v := .bool true) (Ytobokknfpjjdeaa.kept hb9 (Ytobokknfpjjdeaa.kept hb1 hr2))
    have hc := cellF hs9 0
    refine leaves_nil (v := .bool true) ?_ ⟨rfl, below_set (below_then (below_then hbx hb1) hb9) (by omega)⟩
    simp [results, Try.f4, go_sem, hc]
  have hbz : ¬ (150 : Int) < n := by omega
  go_wp2_with (first | (go_at_call 11; (with_reducible refine (new_side _ _).mono ?_); rintro e w1 ⟨rfl, hN1, hb1⟩))
  have hsz2 : ((w.alloc (Obj.cells #[.bool buy] 4)).alloc (Obj.cells #[.bool false] 4)).heap.size = w.heap.size + 1 + 1 := by simp
  rw [hsz2] at hN1
  have hE1 : Fenv buy w [] w1 := ⟨Ytobokknfpjjdeaa.kept hb1 hb2, Ytobokknfpjjdeaa.kept hb1 hr2, below_then hbx hb1, (fun D hD => by cases hD), List.nodup_nil⟩
  clear hbx hb2 hr2 hsz2 hb1
  refine wp_loop_ghost_k (fun gh ac wr => ∃ (Ds : List Nat) (u : Nat → Value), FREL buy n w Ds gh (u 6) (u 29) wr ∧ ac = { tmps := #[.bool buy, .slice a n c, .pointer (some ⟨w.heap.size, 0, none⟩), undef, .pointer (some ⟨w.heap.size + 1, 0, none⟩), .pointer (some ⟨w.heap.size + 1 + 1, 0, none⟩), u 6, u 7, u 8, u 9, u 10, u 11, u 12, .bool buy, .pointer (some ⟨w.heap.size + 1 + 1, 0, none⟩), .pointer (some ⟨w.heap.size + 1 + 1, 0, none⟩), .bool false, .bool false, .slice a n c, .int .i64 n, .bool (decide ((150 : Int) < n)), .bool (decide ((150 : Int) < n)), undef, undef, undef, undef, undef, .slice a n c, .int .i64 n, u 29, u 30, u 31, u 32, u 33, u 34, u 35, u 36, u 37, u 38, u 39, u 40, u 41, u 42, u 43, u 44, u 45, u 46, u 47, u 48, u 49, u 50, u 51, u 52, u 53, u 54, u 55, u 56, u 57, u 58, u 59, u 60, u 61, u 62, u 63, u 64, u 65, u 66, u 67, u 68, u 69, u 70, u 71, u 72, u 73, u 74, u 75, u 76, u 77, u 78, u 79, u 80, u 81, u 82, u 83, u 84, u 85, u 86, u 87, u 88, u 89, u 90, u 91, u 92, u 93, u 94, u 95, u 96, u 97, u 98, u 99, u 100, u 101, u 102, u 103, u 104, u 105, u 106, u 107, u 108, u 109, u 110, u 111, u 112, u 113, u 114, u 115, u 116, u 117, u 118, undef], defers := marks Ds }) n ?atStart ?round
  case atStart =>
    refine ⟨[], ?_⟩
    refine ex_act ?_ (by rfl)
    exact ⟨0, 0, _, 1, by omega, rfl, rfl, rfl, by omega, by omega, hN1, ⟨fun i j h1 h2 => by omega, fun i j h1 h2 => by omega, fun i h1 => by omega⟩, hE1⟩
  case round =>
    rintro gh ac wr ⟨Ds, u, ⟨j, k, K, nx, hj, rfl, e29, e6, hx1, hx2, hS, hF, hE⟩, rfl⟩ J K9 hJ hK
    rw [e29, e6]
    clear e29 e6
    clear hN1 hE1
    by_cases hlt : j < n
    · obtain ⟨ga, off, A, t, fr, rfl, hgA, hsA, hxA⟩ := HR.out.kept hE.be j hlt
      have hop := HL.out j
      have m0 := hop.k.1
      have m6 := hop.n.1
      have m1 : (L j)[1]? = some (.int .u64 (N ((L j).extract 1 6) 0)) := by have := hop.o.n.1; rwa [Array.getElem?_extract, if_pos (by rw [hop.size]; omega)] at this
      have hf6 : F64 (N (L j) 6) := hop.n.2
      have HO := Lib.hid hop.o
      have HMS := Lib.hid hop.size
      have HMA := Lib.hid hop.all
      have HX := Lib.hid hxA
      have HHS := Lib.hid hsA
      have HS := Lib.hid hS
      have HF := Lib.hid hF
      have HE := Lib.hid hE
      have HJ := Lib.hid hJ
      clear hop hxA hsA hS hF hE hJ
      generalize hO : (L j).extract 1 6 = O at *
      have HOM := Lib.hid hO
      clear hO
      generalize hM : L j = M at *
      clear hM
      generalize N M 0 = kd at *
      generalize N M 6 = mn at *
      have hnum : O[0]? = some (.int .u64 (N O 0)) := HO.out.n.1
      generalize N O 0 = num at *
      have HNUM := Lib.hid hnum
      clear hnum
      go_upto_region 9 with (first | ((with_reducible refine at_load 40 ?_); refine wpList_load_part rfl 40 _ rfl (ga) (off + j * 7) rfl _ (A) _ _ 7 (hgA) Try.underlying40 rfl (by kernel_rfl) (HHS.out) (M) (HX.out) ?_) | ((with_reducible refine at_alloc 40 ?_); refine wpList_alloc_named rfl 40 rfl (zop) (by kernel_rfl) ?_) | ((with_reducible refine at_store 40 ?_); refine wpList_store_new rfl 40 _ _ rfl (M) _ _ _ rfl (by simp) rfl (by rw [HMS.out]; kernel_rfl) (by rw [HMS.out]; rfl) (HMA.out) ?_))
      have hbm := below_new wr (Obj.cells M 40)
      have hm2 := heap_alloc_new wr (Obj.cells M 40)
      have HS2 := Lib.hid (HS.out.kept hbm)
      have HE2 := Lib.hid (HE.out.kept hbm)
      clear hgA
      generalize wr.alloc (Obj.cells M 40) = w2 at *
      have cm := cellF hm2
      have HM2 := Lib.hid hm2
      clear hm2
      go_upto_block 2 with fail
      refine cut_then (fun ac wx => ∃ (v : Nat → Value), (v 29 = .int .i64 j ∧ ∃ nx2 : Int, v 6 = .int .u64 nx2 ∧ nx ≤ nx2 ∧ nx2 ≤ nx + 1 ∧ Left (w.heap.size + 1 + 1) (w.heap.size + 1 + 1) buy nx2 w2 wx) ∧ ac = { tmps := #[.bool buy, .slice (some ⟨ga, off, none⟩) n c, .pointer (some ⟨w.heap.size, 0, none⟩), undef, .pointer (some ⟨w.heap.size + 1, 0, none⟩), .pointer (some ⟨w.heap.size + 1 + 1, 0, none⟩), v 6, v 7, v 8, v 9, v 10, v 11, v 12, .bool buy, .pointer (some ⟨w.heap.size + 1 + 1, 0, none⟩), .pointer (some ⟨w.heap.size + 1 + 1, 0, none⟩), .bool false, .bool false, .slice (some ⟨ga, off, none⟩) n c, .int .i64 n, .bool (decide ((150 : Int) < n)), .bool (decide ((150 : Int) < n)), undef, undef, undef, undef, undef, .slice (some ⟨ga, off, none⟩) n c, .int .i64 n, v 29, v 30, v 31, v 32, v 33, v 34, v 35, v 36, v 37, v 38, v 39, v 40, v 41, v 42, v 43, v 44, v 45, v 46, v 47, v 48, v 49, v 50, v 51, v 52, v 53, v 54, v 55, v 56, v 57, v 58, v 59, v 60, v 61, v 62, v 63, v 64, v 65, v 66, v 67, v 68, v 69, v 70, v 71, v 72, v 73, v 74, v 75, v 76, v 77, v 78, v 79, v 80, v 81, v 82, v 83, v 84, v 85, v 86, v 87, v 88, v 89, v 90, v 91, v 92, v 93, v 94, v 95, v 96, v 97, v 98, v 99, v 100, v 101, v 102, v 103, v 104, v 105, v 106, v 107, v 108, v 109, v 110, v 111, v 112, v 113, v 114, v 115, v 116, v 117, v 118, undef], defers := marks Ds }) ?first ?rest
      case first =>
        intro I' hI'
        have HII := Lib.hid hI'
        clear hI'
        have hg2 : w.heap.size + 1 + 1 ≤ w2.heap.size := by obtain ⟨v, hg, _⟩ := HS2.out.row; have := (cells_of hg).2.2; omega
        by_cases k1 : kd = 1
        · subst k1
          have hbx := cellF (heap_up (o := Obj.cells O 31) HE2.out.bx)
          have HOS := Lib.hid HO.out.size
          have HOA := Lib.hid HO.out.all
          have HOB := Lib.hid (ord_b (buy := buy) (nx := nx) HO.out ⟨by omega, by omega⟩)
          obtain ⟨B, hB⟩ : ∃ B, (O.setIfInBounds 2 (.bool buy)).setIfInBounds 0 (.int .u64 nx) = B := ⟨_, rfl⟩
          rw [hB] at HOB
          have HB := Lib.hid hB
          have HBS := Lib.hid HOB.out.1.size
          have HBX := Lib.hid (extract_all HOB.out.1.size)
          have hbB := below_new w2 (Obj.cells ((O.setIfInBounds 2 (.bool buy)).setIfInBounds 0 (.int .u64 nx)) 31)
          have HCA := Lib.hid (sadd_fair (HS2.out.kept hbB) HF.out HOB.out.1 HOB.out.2)
          have HNB := Lib.hid (show (w2.alloc (Obj.cells ((O.setIfInBounds 2 (.bool buy)).setIfInBounds 0 (.int .u64 nx)) 31)).heap[w2.heap.size]? = some (.cells B 31 (0, 0)) by rw [hB]; exact heap_alloc_new _ _)
          have HBB := Lib.hid hbB
          have o2 : O[2]? = some (.bool (Bo O 2)) := HO.out.b
          have o0 : ∀ x, (O.setIfInBounds 2 x)[0]? = some (.int .u64 num) := fun x => by rw [Array.getElem?_setIfInBounds_ne (by omega)]; exact HNUM.out
          generalize Bo O 2 = bo at *
          clear hB hbB
          go_wp2_with (first | ((with_reducible refine at_load 31 ?_); refine wpList_load_part rfl 31 _ rfl (wr.heap.size) (1) rfl _ (M) _ _ 5 (HM2.out) Try.underlying31 rfl (by kernel_rfl) (by rw [HMS.out]; omega) (O) (HOM.out) ?_) | ((with_reducible refine at_alloc 31 ?_); refine wpList_alloc_named rfl 31 rfl (zo) (by kernel_rfl) ?_) | ((with_reducible refine at_store 31 ?_); refine wpList_store_new rfl 31 _ _ rfl (O) _ _ _ rfl (by simp) rfl (by rw [HOS.out]; kernel_rfl) (by rw [HOS.out]; rfl) (HOA.out) ?_) | ((with_reducible refine at_load 31 ?_); refine wpList_load_part rfl 31 _ rfl (w2.heap.size) (0) rfl _ (B) _ _ 5 (HNB.out) Try.underlying31 rfl (by kernel_rfl) (by rw [HBS.out]; omega) (B) (HBX.out) ?_) | (go_at_call 13; (with_reducible refine (HCA.out).mono ?_); rintro e w3 ⟨r, rfl, h3⟩))
          · rename_i hr
            rcases h3 with ⟨h3, _⟩ | ⟨_, h3⟩
            · exact absurd (by simpa using hr) h3
            · rw [HII.out]; refine Held.mk (ex_act ⟨rfl, nx + 1, rfl, by omega, by omega, h3.from HBB.out hg2⟩ (by rfl))
          · rename_i hr
            rcases h3 with ⟨_, h3⟩ | ⟨h3, _⟩
            · rw [HII.out]; refine Held.mk (ex_act ⟨rfl, nx, rfl, by omega, by omega, h3.from HBB.out hg2⟩ (by rfl))
            · exact absurd h3 (by simpa using hr)
        · by_cases k2 : kd = 2
          · subst k2
            have cf := sfill_fair mn HS2.out HF.out
            go_wp2_with ((go_at_call 16; (with_reducible refine (cf).mono ?_); rintro e w3 ⟨⟨v, x, rfl⟩, h3⟩))
            rw [HII.out]; refine Held.mk (ex_act ⟨rfl, nx, rfl, by omega, by omega, h3⟩ (by rfl))
          · by_cases k3 : kd = 3
            · subst k3
              have cf := sdrop_fair num HS2.out HF.out
              go_wp2_with ((go_at_call 17; (with_reducible refine (cf).mono ?_); rintro e w3 ⟨⟨v, x, rfl⟩, h3⟩))
              rw [HII.out]; refine Held.mk (ex_act ⟨rfl, nx, rfl, by omega, by omega, h3⟩ (by rfl))
            · by_cases k4 : kd = 4
              · subst k4
                have cf := slower_fair num mn HS2.out HF.out hf6
                go_wp2_with ((go_at_call 18; (with_reducible refine (cf).mono ?_); rintro e w3 ⟨⟨v, rfl⟩, h3⟩))
                rw [HII.out]; refine Held.mk (ex_act ⟨rfl, nx, rfl, by omega, by omega, h3⟩ (by rfl))
              · go_wp2_with fail
                rw [HII.out]; refine Held.mk (ex_act ⟨rfl, nx, rfl, by omega, by omega, Left.same HS2.out HF.out (Below.refl _ _)⟩ (by rfl))
      case rest =>
        rintro ac wx ⟨v, ⟨e29, nx2, e6, hx3, hx4, hL⟩, rfl⟩
        rw [e29, e6]
        clear e29 e6
        have hE3 := HE2.out.left hL (by obtain ⟨v, hg, _⟩ := HS2.out.row; exact ⟨_, _, _, hg⟩)
        obtain ⟨k2, K2, hS3, hF3, _, _⟩ := hL
        have hfe : ∀ (w1 : World) (g : Nat), (binOp .eql 44 (.func (.func 55) #[] #[.pointer (some ⟨g, 0, none⟩)]) Value.nilFunc).run Try.prog w1 = .ok (.bool false) w1 := fun _ _ => by kernel_rfl
        have HS3 := Lib.hid hS3
        have HF3 := Lib.hid hF3
        have HE3 := Lib.hid hE3
        clear hS3 hF3 hE3 cm
        go_wp2_with (first | (go_at_call 19; (with_reducible refine (sall_any _).mono ?_); rintro e w6 ⟨rfl, rfl⟩) | ((with_reducible refine at_alloc 31 ?_); refine wpList_alloc_named rfl 31 rfl (zo) (by kernel_rfl) ?_))
        have hb4 : Below wx.heap.size wx ((((wx.alloc (Obj.cells zo 31)).alloc (Obj.cells #[Value.bool true] 4)).alloc (Obj.cells #[Value.pointer (some ⟨w.heap.size + 1 + 1, 0, none⟩)] 23)).alloc (Obj.cells #[Value.pointer (some ⟨w.heap.size + 1 + 1, 0, none⟩)] 23)) := below_alloc (below_alloc (below_alloc (below_new _ _) _) _) _
        have h10 : ((((wx.alloc (Obj.cells zo 31)).alloc (Obj.cells #[Value.bool true] 4)).alloc (Obj.cells #[Value.pointer (some ⟨w.heap.size + 1 + 1, 0, none⟩)] 23)).alloc (Obj.cells #[Value.pointer (some ⟨w.heap.size + 1 + 1, 0, none⟩)] 23)).heap[wx.heap.size]? = some (.cells zo 31 (0, 0)) := heap_up (heap_up (heap_up (heap_alloc_new _ _)))
        have h11 : ((((wx.alloc (Obj.cells zo 31)).alloc (Obj.cells #[Value.bool true] 4)).alloc (Obj.cells #[Value.pointer (some ⟨w.heap.size + 1 + 1, 0, none⟩)] 23)).alloc (Obj.cells #[Value.pointer (some ⟨w.heap.size + 1 + 1, 0, none⟩)] 23)).heap[wx.heap.size + 1]? = some (.cells #[Value.bool true] 4 (0, 0)) := by repeat (first | exact heap_new (by simp; done) | refine heap_up ?_)
        have hbox : ((((wx.alloc (Obj.cells zo 31)).alloc (Obj.cells #[Value.bool true] 4)).alloc (Obj.cells #[Value.pointer (some ⟨w.heap.size + 1 + 1, 0, none⟩)] 23)).alloc (Obj.cells #[Value.pointer (some ⟨w.heap.size + 1 + 1, 0, none⟩)] 23)).heap[wx.heap.size + 1 + 1 + 1]? = some (.cells #[Value.pointer (some ⟨w.heap.size + 1 + 1, 0, none⟩)] 23 (0, 0)) := by repeat (first | exact heap_new (by simp; done) | refine heap_up ?_)
        have hs4 : ((((wx.alloc (Obj.cells zo 31)).alloc (Obj.cells #[Value.bool true] 4)).alloc (Obj.cells #[Value.pointer (some ⟨w.heap.size + 1 + 1, 0, none⟩)] 23)).alloc (Obj.cells #[Value.pointer (some ⟨w.heap.size + 1 + 1, 0, none⟩)] 23)).heap.size = wx.heap.size + 4 := by simp
        generalize ((((wx.alloc (Obj.cells zo 31)).alloc (Obj.cells #[Value.bool true] 4)).alloc (Obj.cells #[Value.pointer (some ⟨w.heap.size + 1 + 1, 0, none⟩)] 23)).alloc (Obj.cells #[Value.pointer (some ⟨w.heap.size + 1 + 1, 0, none⟩)] 23)) = w4 at *
        refine range_rounds (gf := 55) (lb := #[.pointer (some ⟨wx.heap.size + 1 + 1 + 1, 0, none⟩)]) (encs := fun r => #[.agg (K2 r)]) (k := k2) rfl (enters_of Try.func55 (by kernel_rfl) rfl) (fun _ => rfl) (sall_seq hbox (HS3.out.kept hb4) (Nat.le_refl _))
          (fun r W => (W.heap[wx.heap.size]? = some (.cells (lastA K2 r) 31 (0, 0)) ∧ W.heap[wx.heap.size + 1]? = some (.cells #[.bool (decide (r = 0))] 4 (0, 0))) ∧ Below wx.heap.size wx W)
          (fun _ _ _ => False) ?oI ?oX ⟨⟨h10, h11⟩, hb4⟩ (fun r W => W.alloc (.cells (K2 r) 31)) (fun r W => World.grownBy_alloc W _ none) ?a1 ?assign ?body ?done ?stop
        case oI => exact OwnFrom.and (OwnFrom.and ownFrom_cells ownFrom_cells) (ownFrom_below (Nat.le_refl _) (by omega))
        case oX => intro c r W W' row h _ _; exact h
        case stop => intro D c r W _ _ h _; exact h.elim
        case assign =>
          intro l r W K hr hK
          have hO := HS3.out.ord r
          have hsz := hO.size
          refine wpIn_lit' #[.bool buy, .slice (some ⟨ga, off, none⟩) n c, .pointer (some ⟨w.heap.size, 0, none⟩), undef, .pointer (some ⟨w.heap.size + 1, 0, none⟩), .pointer (some ⟨w.heap.size + 1 + 1, 0, none⟩), .int .u64 nx2, v 7, v 8, v 9, .pointer (some ⟨wx.heap.size, 0, none⟩), .pointer (some ⟨wx.heap.size + 1, 0, none⟩), v 12, .bool buy, .pointer (some ⟨w.heap.size + 1 + 1, 0, none⟩), .pointer (some ⟨w.heap.size + 1 + 1, 0, none⟩), .bool false, .bool false, .slice (some ⟨ga, off, none⟩) n c, .int .i64 n, .bool (decide ((150 : Int) < n)), .bool (decide ((150 : Int) < n)), undef, undef, undef, undef, undef, .slice (some ⟨ga, off, none⟩) n c, .int .i64 n, .int .i64 j, v 30, v 31, v 32, v 33, v 34, v 35, v 36, v 37, v 38, v 39, v 40, v 41, v 42, v 43, v 44, v 45, v 46, v 47, v 48, v 49, v 50, v 51, v 52, v 53, v 54, v 55, v 56, v 57, v 58, v 59, v 60, v 61, v 62, v 63, v 64, v 65, v 66, v 67, v 68, v 69, v 70, v 71, v 72, v 73, .pointer (some ⟨w.heap.size + 1 + 1, 0, none⟩), .func (.func 55) #[] #[.pointer (some ⟨wx.heap.size + 1 + 1, 0, none⟩)], .bool false, .pointer (some ⟨w.heap.size + 1 + 1, 0, none⟩), .func (.func 55) #[] #[.pointer (some ⟨wx.heap.size + 1 + 1 + 1, 0, none⟩)], .agg (K2 r), v 80, v 81, v 82, v 83, v 84, v 85, v 86, v 87, v 88, v 89, v 90, v 91, v 92, v 93, v 94, v 95, v 96, v 97, v 98, v 99, v 100, v 101, v 102, v 103, v 104, v 105, v 106, v 107, v 108, v 109, v 110, v 111, v 112, v 113, v 114, v 115, v 116, v 117, v 118, undef] (by simp) ?_
          gi_wp2_with (first | ((with_reducible refine at_allocIn 31 ?_); refine wpListIn_alloc_named rfl 31 rfl (zo) (by kernel_rfl) ?_) | ((with_reducible refine at_storeIn 31 ?_); refine wpListIn_store_new rfl 31 _ _ rfl (K2 r) _ _ _ rfl (by simp) rfl (by rw [hsz]; kernel_rfl) (by rw [hsz]; rfl) (hO.all) ?_))
          exact hK
        case body =>
          rintro l r W0 W hr ⟨⟨i10, i11⟩, iB⟩ hsW hup _
          have hO := HS3.out.ord r
          have hv := hup _ _ _ _ (heap_alloc_new W0 (Obj.cells (K2 r) 31))
          have hbx := Ytobokknfpjjdeaa.kept iB HE3.out.bx
          have cv := cellF hv
          have cbx := cellF hbx
          have c10 := cellF i10
          have e3 := hO.p.1
          have e0 := hO.n.1
          have HMZ := Lib.hid hO.size
          have HMO := Lib.hid hO.all
          have HMX := Lib.hid (extract_all hO.size)
          have hPO : IsOrd (lastA K2 r) := by unfold lastA; split; exact zo_ord; exact HS3.out.ord _
          have HPZ := Lib.hid hPO.size
          have HNX := Lib.hid (show lastA K2 (r + 1) = K2 r by unfold lastA; rw [if_neg (by omega)]; rfl)
          have HIB := Lib.hid (And.intro iB hsW)
          have HUP := Lib.hid hup
          clear hup hbx hO iB hsW hb4 h10 h11 hbox
          by_cases r0 : r = 0
          · subst r0
            have c11 := cellF i11
            simp only [decide_true] at c11 i11
            generalize K2 0 = M at *
            generalize lastA K2 0 = Pz at *
            gi_wp2_with (first | ((with_reducible refine at_loadIn 31 ?_); refine wpListIn_load_part rfl 31 _ rfl (W0.heap.size) (0) rfl _ (M) _ _ 5 (hv) Try.underlying31 rfl (by kernel_rfl) (by rw [HMZ.out]; omega) (M) (HMX.out) ?_) | ((with_reducible refine at_storeIn 31 ?_); refine wpListIn_store_over rfl 31 _ _ rfl (wx.heap.size) (M) rfl rfl _ _ (i10) (by rw [HMZ.out]; kernel_rfl) (by rw [HMZ.out]; exact HPZ.out) (HMO.out) ?_; intro w5 hg5 hs5 ho5 hb5; have i11b := (ho5 (wx.heap.size + 1) (by omega)).trans i11; have c11b := cellF i11b; have f11b := (cells_of i11b).2.1; clear c10 c11 cv cbx))
            have hko := (keeps_over i10 hs5 ho5).trans (KeepsOthers.setCell w5 ⟨wx.heap.size + 1, 0, none⟩ (.bool false))
            have hot : ∀ i, i ≠ wx.heap.size → i ≠ wx.heap.size + 1 → (w5.setCell ⟨wx.heap.size + 1, 0, none⟩ (.bool false)).heap[i]? = W.heap[i]? := fun i h1 h2 => (heap_setCell_other w5 ⟨wx.heap.size + 1, 0, none⟩ i _ h2).trans (ho5 i h1)
            refine ⟨hko, fun i c t fr hi h => (hot i (by omega) (by omega)).trans h, ⟨?_, ?_⟩, below_set ((HIB.out.1).trans (hb5 _ (Nat.le_refl _))) (by omega)⟩
            · rw [HNX.out]; exact heap_set_other hg5 (by omega)
            · exact heap_set (i := 0) i11b
          · have hd : decide (r = 0) = false := decide_eq_false r0
            rw [hd] at i11
            clear hd
            have c11 := cellF i11
            have hq1 := HF3.out.pr (r - 1) r (by omega) hr
            have hq2 := HF3.out.eq (r - 1) r (by omega) hr
            have hL1 : lastA K2 r = K2 (r - 1) := by unfold lastA; rw [if_neg r0]
            have p3 := (HS3.out.ord (r - 1)).p.1
            have p0 := (HS3.out.ord (r - 1)).n.1
            rw [hL1] at c10 i10 HPZ
            clear hL1
            generalize K2 r = M at *
            generalize K2 (r - 1) = Pz at *
            generalize N M 3 = pm at *
            generalize N Pz 3 = pl at *
            generalize N M 0 = nm at *
            generalize N Pz 0 = nl at *
            rw [bet_no] at hq1
            have fin : ∀ w5 : World, w5.heap[wx.heap.size]? = some (.cells M 31 (0, 0)) → w5.heap.size = W.heap.size → (∀ i, i ≠ wx.heap.size → w5.heap[i]? = W.heap[i]?) → (∀ B, B ≤ wx.heap.size → Below B W w5) →
                KeepsOthers W (w5.setCell ⟨wx.heap.size + 1, 0, none⟩ (.bool false)) ∧ Kn (wx.heap.size + 4) W (w5.setCell ⟨wx.heap.size + 1, 0, none⟩ (.bool false)) ∧ (((w5.setCell ⟨wx.heap.size + 1, 0, none⟩ (.bool false)).heap[wx.heap.size]? = some (.cells (lastA K2 (r + 1)) 31 (0, 0)) ∧ (w5.setCell ⟨wx.heap.size + 1, 0, none⟩ (.bool false)).heap[wx.heap.size + 1]? = some (.cells #[.bool (decide (r + 1 = 0))] 4 (0, 0))) ∧ Below wx.heap.size wx (w5.setCell ⟨wx.heap.size + 1, 0, none⟩ (.bool false))) := fun w5 hg5 hs5 ho5 hb5 => by
              have hko := (keeps_over i10 hs5 ho5).trans (KeepsOthers.setCell w5 ⟨wx.heap.size + 1, 0, none⟩ (.bool false))
              have hot : ∀ i, i ≠ wx.heap.size → i ≠ wx.heap.size + 1 → (w5.setCell ⟨wx.heap.size + 1, 0, none⟩ (.bool false)).heap[i]? = W.heap[i]? := fun i h1 h2 => (heap_setCell_other w5 ⟨wx.heap.size + 1, 0, none⟩ i _ h2).trans (ho5 i h1)
              refine ⟨hko, fun i c t fr hi h => (hot i (by omega) (by omega)).trans h, ⟨?_, ?_⟩, below_set ((HIB.out.1).trans (hb5 _ (Nat.le_refl _))) (by omega)⟩
              · rw [HNX.out]; exact heap_set_other hg5 (by omega)
              · rw [show decide (r + 1 = 0) = false from decide_eq_false (by omega)]
                exact heap_set (i := 0) ((ho5 (wx.heap.size + 1) (by omega)).trans i11)
            have HFIN := Lib.hid fin
            clear fin
            by_cases heq : pm = pl
            · have hnl := hq2 heq
              have hnl' : ¬ nm ≤ nl := by omega
              subst heq
              have hpp : ¬ pm < pm := by omega
              clear hq1 hq2
              cases buy
              · gi_wp2_with (first | ((with_reducible refine at_loadIn 31 ?_); refine wpListIn_load_part rfl 31 _ rfl (W0.heap.size) (0) rfl _ (M) _ _ 5 (hv) Try.underlying31 rfl (by kernel_rfl) (by rw [HMZ.out]; omega) (M) (HMX.out) ?_) | ((with_reducible refine at_storeIn 31 ?_); refine wpListIn_store_over rfl 31 _ _ rfl (wx.heap.size) (M) rfl rfl _ _ (i10) (by rw [HMZ.out]; kernel_rfl) (by rw [HMZ.out]; exact HPZ.out) (HMO.out) ?_; intro w5 hg5 hs5 ho5 hb5; have i11b := (ho5 (wx.heap.size + 1) (by omega)).trans i11; have c11b := cellF i11b; have f11b := (cells_of i11b).2.1; clear c10 c11 cv cbx))
                exact HFIN.out _ hg5 hs5 ho5 hb5
              · gi_wp2_with (first | ((with_reducible refine at_loadIn 31 ?_); refine wpListIn_load_part rfl 31 _ rfl (W0.heap.size) (0) rfl _ (M) _ _ 5 (hv) Try.underlying31 rfl (by kernel_rfl) (by rw [HMZ.out]; omega) (M) (HMX.out) ?_) | ((with_reducible refine at_storeIn 31 ?_); refine wpListIn_store_over rfl 31 _ _ rfl (wx.heap.size) (M) rfl rfl _ _ (i10) (by rw [HMZ.out]; kernel_rfl) (by rw [HMZ.out]; exact HPZ.out) (HMO.out) ?_; intro w5 hg5 hs5 ho5 hb5; have i11b := (ho5 (wx.heap.size + 1) (by omega)).trans i11; have c11b := cellF i11b; have f11b := (cells_of i11b).2.1; clear c10 c11 cv cbx))
                exact HFIN.out _ hg5 hs5 ho5 hb5
            · clear hq2
              have heq' : (pm == pl) = false := by simp [heq]
              cases buy
              · have hpp : ¬ pm < pl := by simpa using hq1
                clear hq1
                gi_wp2_with (first | ((with_reducible refine at_loadIn 31 ?_); refine wpListIn_load_part rfl 31 _ rfl (W0.heap.size) (0) rfl _ (M) _ _ 5 (hv) Try.underlying31 rfl (by kernel_rfl) (by rw [HMZ.out]; omega) (M) (HMX.out) ?_) | ((with_reducible refine at_storeIn 31 ?_); refine wpListIn_store_over rfl 31 _ _ rfl (wx.heap.size) (M) rfl rfl _ _ (i10) (by rw [HMZ.out]; kernel_rfl) (by rw [HMZ.out]; exact HPZ.out) (HMO.out) ?_; intro w5 hg5 hs5 ho5 hb5; have i11b := (ho5 (wx.heap.size + 1) (by omega)).trans i11; have c11b := cellF i11b; have f11b := (cells_of i11b).2.1; clear c10 c11 cv cbx))
                exact HFIN.out _ hg5 hs5 ho5 hb5
              · have hpp : ¬ pl < pm := by simpa using hq1
                clear hq1
                gi_wp2_with (first | ((with_reducible refine at_loadIn 31 ?_); refine wpListIn_load_part rfl 31 _ rfl (W0.heap.size) (0) rfl _ (M) _ _ 5 (hv) Try.underlying31 rfl (by kernel_rfl) (by rw [HMZ.out]; omega) (M) (HMX.out) ?_) | ((with_reducible refine at_storeIn 31 ?_); refine wpListIn_store_over rfl 31 _ _ rfl (wx.heap.size) (M) rfl rfl _ _ (i10) (by rw [HMZ.out]; kernel_rfl) (by rw [HMZ.out]; exact HPZ.out) (HMO.out) ?_; intro w5 hg5 hs5 ho5 hb5; have i11b := (ho5 (wx.heap.size + 1) (by omega)).trans i11; have c11b := cellF i11b; have f11b := (cells_of i11b).2.1; clear c10 c11 cv cbx))
                exact HFIN.out _ hg5 hs5 ho5 hb5
        case done =>
          rintro D W hD ⟨_, iB⟩ hK4
          have hE4 := HE3.out.kept iB
          have hDn : D ∉ Ds := fun hm => by have := (Array.getElem?_eq_some_iff.1 (HE3.out.ds D hm).2).1; omega
          have hE5 := hE4.more (by have := HE3.out.be.size; omega) hDn hK4
          clear hb4 h10 h11 hbox
          go_wp2_with fail
          exact close_round HJ.out (n - (j + 1)) (by omega) ⟨D :: Ds, ex_act ⟨j + 1, k2, K2, nx2, by omega, rfl, rfl, rfl, by omega, by omega, HS3.out.kept iB, HF3.out, hE5⟩ (by rfl)⟩
    · obtain rfl : j = n := by omega
      clear hS hF
      go_wp2_with ((go_at_call 12; (with_reducible refine (known06 _).mono ?_); rintro e w9 ⟨rfl, hb9⟩; have hE10 := hE.kept hb9; have cr := cellF hE10.rs; have fr := (cells_of hE10.rs).2.1))
      have hs9 := heap_set (i := 0) (v := .bool true) hE10.rs
      have hne9 : ∀ D, D ∈ Ds → D ≠ w.heap.size + 1 := fun D hD e => by
        have := (hE10.ds D hD).2
        rw [e, hE10.rs] at this
        cases this
      refine leaves_marks Ds _ hE.nd (fun D hD => heap_set_other (hE10.ds D hD).2 (hne9 D hD)) (fun w' h1 h2 => ?_)
      have hr9 := (h1 (w.heap.size + 1) (fun hD => hne9 _ hD rfl)).trans hs9
      have hc := cellF hr9 0
      refine leaves_nil (v := .bool true) ?_ ⟨rfl, (below_set (i := 0) (v := .bool true) hE10.be (show w.heap.size ≤ w.heap.size + 1 by omega)).trans (h2 w.heap.size (fun D hD => (hE10.ds D hD).1) ?_)⟩
      · simp [results, Try.f4, go_sem, hc]
      · have := hE10.be.size
        simpa [World.setCell] using this
end Go.Proofs.Ytobokknfpjjdeaa
