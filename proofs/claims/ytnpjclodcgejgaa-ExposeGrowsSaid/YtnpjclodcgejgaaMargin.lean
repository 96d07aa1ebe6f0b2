/- scan.Margin answers what the plain reading says, of any legs. Condition: each leg's numbers fit their kinds. -/
import Derived.Test.YtnpjclodcgejgaaMarg
import Derived.Test.YtnpjclodcgejgaaTail
import Derived.Maps.Own
import Derived.Maps.OwnOps
import Derived.Deep.CutRange
import Derived.Deep.LoopGhost
namespace Go.Proofs.Ytnpjclodcgejgaa
set_option linter.unusedVariables false
set_option linter.unusedSimpArgs false
open Go.RowKit Go.Maps

/-- leg i of a slice -/
def Legs (w : World) (a : Option Addr) (n : Nat) (L : Nat → Array Value) : Prop :=
  ∀ i, i < n → ∃ g off A t fr, a = some ⟨g, off, none⟩ ∧ w.heap[g]? = some (.cells A t fr) ∧ off + i * 26 + 26 ≤ A.size ∧ A.extract (off + i * 26) (off + i * 26 + 26) = L i
theorem Legs.kept {w w1 : World} {a : Option Addr} {n : Nat} {L : Nat → Array Value} (h : Legs w a n L) (hb : Below w.heap.size w w1) : Legs w1 a n L := fun i hi => by
  obtain ⟨g, off, A, t, fr, h1, h2, h3, h4⟩ := h i hi
  exact ⟨g, off, A, t, fr, h1, Ytnpjclodcgejgaa.kept hb h2, h3, h4⟩
theorem cellF {w : World} {g : Nat} {A : Array Value} {t : TypeId} {fr : Nat × Nat} (h : w.heap[g]? = some (.cells A t fr)) : ∀ j, w.cell? ⟨g, j, none⟩ = A[j]? := fun j => cell_of_row w g j A t fr h

def z26 : Array Value := #[.int .u32 0, .int .u8 0, .int .i64 0, .int .i64 0, .int .i64 0, .int .i64 0, .int .i64 0, .int .i64 0, .int .i64 0, .int .i64 0, .int .i64 0, .int .i64 0, .int .i64 0, .int .i64 0, .int .i64 0, .int .i64 0, .int .i64 0, .int .i64 0, .int .i64 0, .int .i64 0, .int .i64 0, .int .i64 0,
    .int .i64 0, .int .u32 0, .int .i64 0, .int .i64 0]
def z36 : Array Value := Array.replicate 36 (.int .i64 0)

/-- the routes' block, of the first k legs -/
structure Rts (L : Nat → Array Value) (k : Nat) (A : Array Value) : Prop where
  size : A.size = 36
  sc : ∀ r : Nat, r < 9 → A[r * 4]? = some (.int .i64 (st L r k).sc)
  lg : ∀ r : Nat, r < 9 → A[r * 4 + 1]? = some (.int .i64 (st L r k).lg)
  sh : ∀ r : Nat, r < 9 → A[r * 4 + 2]? = some (.int .i64 (st L r k).sh)
  rt : ∀ r : Nat, r < 9 → A[r * 4 + 3]? = some (.int .i64 (st L r k).rt)

theorem Rts.same {L : Nat → Array Value} {k k' : Nat} {A : Array Value} (h : Rts L k A) (he : ∀ r : Nat, st L r k' = st L r k) : Rts L k' A where
  size := h.size
  sc := fun r hr => by rw [he]; exact h.sc r hr
  lg := fun r hr => by rw [he]; exact h.lg r hr
  sh := fun r hr => by rw [he]; exact h.sh r hr
  rt := fun r hr => by rw [he]; exact h.rt r hr
theorem owns_kept {H : Type} {P : Program} {k : TypeId} {R : Value → Option (DataW H × List MemPlace)} {w w1 : World} {b n : Nat} {D : DataW H} (hb : Below w.heap.size w w1) (h : w.ownsMap P k R b n D) : w1.ownsMap P k R b n D := by
  obtain ⟨es, clock, h1, F, hs, hD⟩ := h
  exact ⟨es, clock, kept hb h1, F, hs, hD⟩
theorem IsLeg.c1 {L : Nat → Array Value} {k : Nat} (h : IsLeg (L k)) : (L k)[1]? = some (.int .u8 (lr L k)) := by
  have h1 := h.spec.c1.1
  rw [N_spec h (by omega)] at h1
  rw [Array.getElem?_extract, if_pos (by have := h.size; omega)] at h1
  unfold lr
  simpa using h1

/-- what stands while a leg is counted -/
structure Mid {H : Type} (w w1 : World) (X : Nat) (B A : Array Value) : Prop where
  r : w1.heap[w.heap.size]? = some (.cells A 85 (0, 0))
  x : w1.heap[X]? = some (.cells B 30 (0, 0))
  m : w1.ownsMap Try.prog 25 (plainElem (H := H) Try.prog 3) (w.heap.size + 1) 0 (.map [])
  b : Below w.heap.size w w1
  ne : X ≠ w.heap.size
theorem Mid.below {H : Type} {w w1 w2 : World} {X : Nat} {B A : Array Value} (h : Mid (H := H) w w1 X B A) (hb : Below w1.heap.size w1 w2) : Mid (H := H) w w2 X B A :=
  ⟨kept hb h.r, kept hb h.x, owns_kept hb h.m, below_then h.b hb, h.ne⟩
theorem Mid.set {H : Type} {w w1 w2 : World} {X i : Nat} {B A : Array Value} {v : Value} (h : Mid (H := H) w w1 X B A) (hw : w2 = w1.setCell ⟨w.heap.size, i, none⟩ v) : Mid (H := H) w w2 X B (A.setIfInBounds i v) := by
  subst hw
  obtain ⟨es, clock, h1, F, hs, hD⟩ := h.m
  have hsz : (w1.setCell ⟨w.heap.size, i, none⟩ v).heap.size = w1.heap.size := by simp [World.setCell]
  exact ⟨heap_set h.r, heap_set_other h.x h.ne, ⟨es, clock, heap_set_other h1 (by omega), F, hs, hD⟩,
    ⟨h.b.1, h.b.2, h.b.3, by rw [hsz]; exact h.b.size, fun k hk => by rw [heap_setCell_other w1 ⟨w.heap.size, i, none⟩ k v (by simp; omega)]; exact h.b.block k hk⟩, h.ne⟩
theorem Mid.val {H : Type} {w w1 : World} {X i : Nat} {B A : Array Value} {v v' : Int} (h : Mid (H := H) w w1 X B (A.setIfInBounds i (.int .i64 v))) (hv : v = v') : Mid (H := H) w w1 X B (A.setIfInBounds i (.int .i64 v')) := hv ▸ h
theorem at_world {P : Program} {C : Code} {Q : Exit → Act → World → Prop} {a : Act} {W : World} (h : ∀ w3, w3 = W → C.wp P Q a w3) : C.wp P Q a W := h W rfl

theorem IsLeg.c22 {L : Nat → Array Value} {k : Nat} (h : IsLeg (L k)) : (L k)[22]? = some (.int .i64 (lc L k)) := by
  have h1 := (h.spec.c 22 (by omega) (by omega)).1
  rw [N_spec h (by omega)] at h1
  rw [Array.getElem?_extract, if_pos (by have := h.size; omega)] at h1
  unfold lc
  simpa using h1

theorem IsLeg.all {B : Array Value} (h : IsLeg B) : B.all (·.oneCell') = true := by
  refine all_one fun i v hv => ?_
  have hi : i < 26 := by have := (Array.getElem?_eq_some_iff.1 hv).1; rw [h.size] at this; exact this
  by_cases e : i = 25
  · subst e; exact h.q.one hv
  · have h1 := h.spec.all
    rw [Array.all_eq_true] at h1
    have h2 := h1 i (by have := h.size; simp; omega)
    rw [Array.getElem?_eq_some_iff] at hv
    obtain ⟨_, hv⟩ := hv
    simpa [hv] using h2

theorem lawK : Keyed Try.prog 25 := int_keyed Try.underlying25
theorem zeroI (w : World) : (zeroValue 3).run Try.prog w = .ok (.int .i64 0) w := by kernel_rfl

theorem rts_zero (L : Nat → Array Value) : Rts L 0 z36 where
  size := rfl
  sc := fun r hr => by have : r * 4 < 36 := by omega
                       simp [z36, st, this]
  lg := fun r hr => by have : r * 4 + 1 < 36 := by omega
                       simp [z36, st, this]
  sh := fun r hr => by have : r * 4 + 2 < 36 := by omega
                       simp [z36, st, this]
  rt := fun r hr => by have : r * 4 + 3 < 36 := by omega
                       simp [z36, st, this]

/-- what a leg's round leaves -/
theorem step_rel {H : Type} {L : Nat → Array Value} {n k r X : Nat} {w w8 w9 : World} {B R R7 : Array Value} {s0 s1 s2 s3 v : Int} (hk : k < n) (hr8 : r < 9) (hR : Rts L k R) (hok : okTo L (k + 1) = true)
    (M8 : Mid (H := H) w w8 X B R7) (hw : w9 = w8.setCell ⟨w.heap.size, r * 4 + 2, none⟩ (.int .i64 v)) (hv : v = s2) (hT : st L r (k + 1) = ⟨s0, s1, s2, s3⟩) (ho : ∀ r' : Nat, r' ≠ r → st L r' (k + 1) = st L r' k)
    (h7 : R7.size = 36 ∧ R7[r * 4]? = some (.int .i64 s0) ∧ R7[r * 4 + 1]? = some (.int .i64 s1) ∧ R7[r * 4 + 3]? = some (.int .i64 s3) ∧ ∀ i, i / 4 ≠ r → R7[i]? = R[i]?) :
    ∃ (k' : Nat) (R' : Array Value), k' ≤ n ∧ n - (k + 1) = n - k' ∧ Value.int .i64 ((k : Int) + 1) = .int .i64 k' ∧ okTo L k' = true ∧ w9.heap[w.heap.size]? = some (.cells R' 85 (0, 0)) ∧ Rts L k' R' ∧
      w9.ownsMap Try.prog 25 (plainElem (H := H) Try.prog 3) (w.heap.size + 1) 0 (.map []) ∧ Below w.heap.size w w9 := by
  subst hv
  have M9 := M8.set hw
  obtain ⟨h1, h2, h3, h4, h5⟩ := h7
  refine ⟨k + 1, R7.setIfInBounds (r * 4 + 2) (.int .i64 v), hk, rfl, by simp, hok, M9.r, ⟨by simp [h1], ?_, ?_, ?_, ?_⟩, M9.m, M9.b⟩
  · intro r' hr'
    by_cases e : r' = r
    · subst e; rw [hT, Array.getElem?_setIfInBounds_ne (by omega)]; exact h2
    · rw [ho r' e, Array.getElem?_setIfInBounds_ne (by omega), h5 _ (by omega)]; exact hR.sc r' hr'
  · intro r' hr'
    by_cases e : r' = r
    · subst e; rw [hT, Array.getElem?_setIfInBounds_ne (by omega)]; exact h3
    · rw [ho r' e, Array.getElem?_setIfInBounds_ne (by omega), h5 _ (by omega)]; exact hR.lg r' hr'
  · intro r' hr'
    by_cases e : r' = r
    · subst e; rw [hT, Array.getElem?_setIfInBounds_self_of_lt (by omega)]
    · rw [ho r' e, Array.getElem?_setIfInBounds_ne (by omega), h5 _ (by omega)]; exact hR.sh r' hr'
  · intro r' hr'
    by_cases e : r' = r
    · subst e; rw [hT, Array.getElem?_setIfInBounds_ne (by omega)]; exact h4
    · rw [ho r' e, Array.getElem?_setIfInBounds_ne (by omega), h5 _ (by omega)]; exact hR.rt r' hr'

theorem IsLeg.c0 {L : Nat → Array Value} {k : Nat} (h : IsLeg (L k)) : (L k)[0]? = some (.int .u32 (ln L k)) ∧ 0 ≤ ln L k ∧ ln L k ≤ 4294967295 := by
  have h1 := h.spec.c0
  obtain ⟨e1, e2, e3⟩ := h1.u32
  rw [N_spec h (by omega)] at e1 e2 e3
  rw [Array.getElem?_extract, if_pos (by have := h.size; omega)] at e1
  unfold ln
  exact ⟨by simpa using e1, e2, e3⟩
theorem u32_wf {m : Int} (h : 0 ≤ m ∧ m ≤ 4294967295) : (Lit.int .u32 m).wf = true := by
  exact WalkArith.wf_u32 h

/-- what the map counts -/
def Cnt {H : Type} (L : Nat → Array Value) (k : Nat) (D : DataW H) : Prop := IsMap D ∧ ∀ m : Int, D.atKey (.int .u32 m) (.lit (.int .i64 0)) = .lit (.int .i64 (if seenTo L m k then 1 else 0))
theorem cnt_zero {H : Type} (L : Nat → Array Value) : Cnt (H := H) L 0 (.map []) := ⟨⟨[], rfl⟩, fun m => rfl⟩
theorem cnt_step {H : Type} {L : Nat → Array Value} {k : Nat} {D : DataW H} (h : Cnt L k D) (hs : seenTo L (ln L k) k = false) : Cnt L (k + 1) (D.put (.int .u32 (ln L k)) (.lit (.int .i64 1))) := by
  obtain ⟨hm, hc⟩ := h
  refine ⟨by obtain ⟨es, rfl⟩ := hm; exact ⟨_, rfl⟩, fun m => ?_⟩
  by_cases e : m = ln L k
  · subst e
    rw [atKey_put_same hm (show WideAt.IsKeyLit (.int .u32 (ln L k)) from trivial), seenTo]; simp
  · rw [atKey_put_other (by intro h; injection h with _ h; exact e h), hc m, seenTo]
    simp [show ¬ ln L k = m from fun h => e h.symm]
theorem lit_inj {H : Type} {a b : Int} (h : (DataW.lit (.int .i64 a) : DataW H) = .lit (.int .i64 b)) : a = b := by injection h with h; injection h

theorem mg_bd {L : Nat → Array Value} (hL : ∀ i, IsLeg (L i)) (r : Int) (n : Nat) (h : okTo L n = true) (hn : n ≤ 16) : 0 ≤ mg (st L r n) ∧ mg (st L r n) ≤ 1600000000000000 := by
  obtain ⟨h1, h2, h3, h4⟩ := st_bd hL r n h
  have h5 : 0 ≤ min (st L r n).lg (st L r n).sh * (st L r n).rt := Int.mul_nonneg (by omega) (by omega)
  unfold mg
  omega
theorem sum_bd {L : Nat → Array Value} (hL : ∀ i, IsLeg (L i)) (n : Nat) (h : okTo L n = true) (hn : n ≤ 16) : ∀ r : Nat, 0 ≤ sumTo L n r ∧ sumTo L n r ≤ r * 1600000000000000
  | 0 => by simp [sumTo]
  | r + 1 => by
    have ih := sum_bd hL n h hn r
    have := mg_bd hL r n h hn
    simp only [sumTo]
    omega
def z4 : Array Value := #[.int .i64 0, .int .i64 0, .int .i64 0, .int .i64 0]

set_option maxRecDepth 100000 in
set_option maxHeartbeats 4000000 in
theorem margin_any {H : Type} (L : Nat → Array Value) (a : Option Addr) (n cap : Nat) (w : World) (hL : ∀ i, IsLeg (L i)) (hA : Legs w a n L) (hn : n ≤ 9223372036854775807) :
    Calls Try.prog 25 #[.slice a n cap] w fun e w' => e = .returned (.tuple #[.int .i64 (mN L n), .int .i64 (mE L n)]) ∧ Below w.heap.size w w' := by
  by_cases hlong : 16 < n
  · have HF := Lib.hid (And.intro (show mN L n = 0 by simp [mN, hlong]) (show mE L n = 3 by simp [mE, hlong]))
    go_enter Try.func25, Try.ntmps25
    go_wp2
    go_ret2
    exact ⟨by rw [HF.out.1, HF.out.2]; rfl, Below.refl _ _⟩
  · have HF := Lib.hid (And.intro (show mN L n = if okTo L n then (if onceTo L n then sumTo L n 9 else 0) else 0 by simp [mN, hlong]) (show mE L n = if okTo L n then (if onceTo L n then 0 else 8) else 2 by simp [mE, hlong]))
    have hmm := @run_makeMap Try.prog
    have HA := Lib.hid hA
    have HL := Lib.hid hL
    clear hA hL
    go_enter Try.func25, Try.ntmps25
    go_wp2_with (first | ((with_reducible refine at_alloc 85 ?_); refine wpList_alloc_named rfl 85 rfl (z36) (by kernel_rfl) ?_))
    go_loopg [20] n (fun gh i wr => ∃ (k : Nat) (R : Array Value), k ≤ n ∧ gh = n - k ∧ i = .int .i64 k ∧ okTo L k = true ∧ wr.heap[w.heap.size]? = some (.cells R 85 (0, 0)) ∧ Rts L k R ∧
        wr.ownsMap Try.prog 25 (plainElem (H := H) Try.prog 3) (w.heap.size + 1) 0 (.map []) ∧ Below w.heap.size w wr)
    case atStart =>
      refine ⟨0, z36, by omega, by omega, rfl, rfl, ?_, rts_zero L, ?_, below_alloc (below_new _ _) _⟩
      · exact heap_alloc2_old _ _ _
      · have := World.ownsMap_made (H := H) (P := Try.prog) (k := 25) (R := plainElem (H := H) Try.prog 3) (w.alloc (.cells z36 85))
        simpa using this
    case round =>
      obtain ⟨k, R, hk, rfl, rfl, hok, hg, hR, hown, hb⟩ := hrel
      by_cases hlt : k < n
      · obtain ⟨g, off, A, t, fr, rfl, hgA, hszA, hexA⟩ := (HA.out.kept hb) k hlt
        have hleg := HL.out k
        obtain ⟨aq, bq1, bq2⟩ := hleg.q.i64
        change (L k)[25]? = some (.int .i64 (lq L k)) at aq
        change -9223372036854775808 ≤ lq L k at bq1
        change lq L k ≤ 9223372036854775807 at bq2
        have HE := Lib.hid hexA
        have HZ := Lib.hid hszA
        have HO := Lib.hid hok
        clear hexA hszA hok
        have hoff : okLeg L k = false → mN L n = 0 ∧ mE L n = 2 := fun h => by
          have : okTo L n = false := by
            rw [Bool.eq_false_iff]
            intro h'
            rw [okTo_at h' hlt] at h
            cases h
          rw [HF.out.1, HF.out.2, this]
          exact ⟨rfl, rfl⟩
        have HX := Lib.hid hoff
        clear hoff
        generalize hq : lq L k = q at *
        have HQ := Lib.hid hq
        have hF : F64 q := ⟨bq1, bq2⟩
        clear hq
        cases hm : mayB ((L k).extract 0 25)
        · have HY := HX.out (by simp [okLeg, hm])
          have HM := Lib.hid HY
          clear HY
          go_wp2_with (first | ((with_reducible refine at_load 30 ?_); refine wpList_load_part rfl 30 _ rfl (g) ((off + k * 26)) rfl _ (A) _ _ 26 (hgA) Try.underlying30 rfl (by kernel_rfl) (by have := HZ.out; omega) (L k) (HE.out) ?_) | ((with_reducible refine at_alloc 30 ?_); refine wpList_alloc_named rfl 30 rfl (z26) (by kernel_rfl) ?_) | ((with_reducible refine at_store 30 ?_); refine wpList_store_new rfl 30 _ _ rfl (L k) _ _ _ rfl (by simp) rfl (by rw [hleg.size]; kernel_rfl) (by rw [hleg.size]; rfl) (hleg.all) ?_) | ((with_reducible refine at_load 28 ?_); refine wpList_load_part rfl 28 _ rfl (wr.heap.size) (0) rfl _ (L k) _ _ 25 (heap_alloc_new _ _) Try.underlying28 rfl (by kernel_rfl) (by rw [hleg.size]; omega) ((L k).extract 0 25) (rfl) ?_) | (go_at_call 45; (with_reducible refine (may_any ((L k).extract 0 25) _ hleg.spec).mono ?_); rintro e w1 ⟨rfl, hb1⟩))
          go_ret2
          exact ⟨by rw [HM.out.1, HM.out.2]; rfl, below_then (below_alloc hb _) hb1⟩
        · cases hin : inB q (-10000000) 10000000
          · have HY := HX.out (by simp [okLeg, hm, HQ.out, hin])
            have HM := Lib.hid HY
            clear HY
            go_wp2_with (first | ((with_reducible refine at_load 30 ?_); refine wpList_load_part rfl 30 _ rfl (g) ((off + k * 26)) rfl _ (A) _ _ 26 (hgA) Try.underlying30 rfl (by kernel_rfl) (by have := HZ.out; omega) (L k) (HE.out) ?_) | ((with_reducible refine at_alloc 30 ?_); refine wpList_alloc_named rfl 30 rfl (z26) (by kernel_rfl) ?_) | ((with_reducible refine at_store 30 ?_); refine wpList_store_new rfl 30 _ _ rfl (L k) _ _ _ rfl (by simp) rfl (by rw [hleg.size]; kernel_rfl) (by rw [hleg.size]; rfl) (hleg.all) ?_) | ((with_reducible refine at_load 28 ?_); refine wpList_load_part rfl 28 _ rfl (wr.heap.size) (0) rfl _ (L k) _ _ 25 (heap_alloc_new _ _) Try.underlying28 rfl (by kernel_rfl) (by rw [hleg.size]; omega) ((L k).extract 0 25) (rfl) ?_) | (go_at_call 45; (with_reducible refine (may_any ((L k).extract 0 25) _ hleg.spec).mono ?_); rintro e w1 ⟨rfl, hb1⟩; have hg1 := kept hb1 (heap_alloc_new _ _); have hc1 := (cells_of hg1).1) | (go_at_call 34; (with_reducible refine (within_any q 10000000 _ hF (by omega) (by omega)).mono ?_); rintro e w' ⟨rfl, rfl⟩))
            go_ret2
            exact ⟨by rw [HM.out.1, HM.out.2]; rfl, below_then (below_alloc hb _) hb1⟩
          · have hq7 := inB_iff.1 hin
            have hokk : okTo L (k + 1) = true := by simp [okTo, HO.out, okLeg, hm, HQ.out, hin]
            have HK := Lib.hid hokk
            clear hokk
            by_cases h0 : q = 0
            · subst h0
              go_wp2_with (first | ((with_reducible refine at_load 30 ?_); refine wpList_load_part rfl 30 _ rfl (g) ((off + k * 26)) rfl _ (A) _ _ 26 (hgA) Try.underlying30 rfl (by kernel_rfl) (by have := HZ.out; omega) (L k) (HE.out) ?_) | ((with_reducible refine at_alloc 30 ?_); refine wpList_alloc_named rfl 30 rfl (z26) (by kernel_rfl) ?_) | ((with_reducible refine at_store 30 ?_); refine wpList_store_new rfl 30 _ _ rfl (L k) _ _ _ rfl (by simp) rfl (by rw [hleg.size]; kernel_rfl) (by rw [hleg.size]; rfl) (hleg.all) ?_) | ((with_reducible refine at_load 28 ?_); refine wpList_load_part rfl 28 _ rfl (wr.heap.size) (0) rfl _ (L k) _ _ 25 (heap_alloc_new _ _) Try.underlying28 rfl (by kernel_rfl) (by rw [hleg.size]; omega) ((L k).extract 0 25) (rfl) ?_) | (go_at_call 45; (with_reducible refine (may_any ((L k).extract 0 25) _ hleg.spec).mono ?_); rintro e w1 ⟨rfl, hb1⟩; have hg1 := kept hb1 (heap_alloc_new _ _); have hc1 := (cells_of hg1).1) | (go_at_call 34; (with_reducible refine (within_any 0 10000000 _ hF (by omega) (by omega)).mono ?_); rintro e w' ⟨rfl, rfl⟩))
              go_roundg (n - (k + 1))
              case measure => omega
              case rel =>
                have hbx := below_then (below_new wr (.cells (L k) 30)) hb1
                refine ⟨k + 1, R, by omega, rfl, by go_num, HK.out, Ytnpjclodcgejgaa.kept hbx hg, ?_, owns_kept hbx hown, below_then hb hbx⟩
                exact hR.same (fun r => by simp [st, HQ.out])
            · skip
              obtain ⟨r, hr⟩ : ∃ r : Nat, lr L k = (r : Int) := ⟨(lr L k).toNat, by have := (okLeg_facts hleg (okTo_at HK.out (Nat.lt_succ_self k))).2.2.2; omega⟩
              have hr8 : r < 9 := by have := (okLeg_facts hleg (okTo_at HK.out (Nat.lt_succ_self k))).2.2.2; omega
              have ar : (L k)[1]? = some (.int .u8 (r : Int)) := by rw [← hr]; exact hleg.c1
              have HR := Lib.hid hR
              have HRr := Lib.hid hr
              clear hR hr
              go_wp2_with (first | ((with_reducible refine at_load 30 ?_); refine wpList_load_part rfl 30 _ rfl (g) ((off + k * 26)) rfl _ (A) _ _ 26 (hgA) Try.underlying30 rfl (by kernel_rfl) (by have := HZ.out; omega) (L k) (HE.out) ?_) | ((with_reducible refine at_alloc 30 ?_); refine wpList_alloc_named rfl 30 rfl (z26) (by kernel_rfl) ?_) | ((with_reducible refine at_store 30 ?_); refine wpList_store_new rfl 30 _ _ rfl (L k) _ _ _ rfl (by simp) rfl (by rw [hleg.size]; kernel_rfl) (by rw [hleg.size]; rfl) (hleg.all) ?_) | ((with_reducible refine at_load 28 ?_); refine wpList_load_part rfl 28 _ rfl (wr.heap.size) (0) rfl _ (L k) _ _ 25 (heap_alloc_new _ _) Try.underlying28 rfl (by kernel_rfl) (by rw [hleg.size]; omega) ((L k).extract 0 25) (rfl) ?_) | (go_at_call 45; (with_reducible refine (may_any ((L k).extract 0 25) _ hleg.spec).mono ?_); rintro e w1 ⟨rfl, hb1⟩; have hg1 := kept hb1 (heap_alloc_new _ _); have hc1 := (cells_of hg1).1) | (go_at_call 34; (with_reducible refine (within_any q 10000000 _ hF (by omega) (by omega)).mono ?_); rintro e w' ⟨rfl, rfl⟩))
              obtain ⟨hsw, _, hlc, _⟩ := okLeg_facts hleg (okTo_at HK.out (Nat.lt_succ_self k))
              have hbx := below_then (below_new wr (.cells (L k) 30)) hb1
              have hgR := Ytnpjclodcgejgaa.kept hbx hg
              have hsh := ls_sh hleg
              have a0 := HR.out.sc r hr8
              have a1 := HR.out.lg r hr8
              have a2 := HR.out.sh r hr8
              have a3 := HR.out.rt r hr8
              have hbd := st_bd HL.out r k (okTo_mono HK.out (by omega))
              obtain ⟨⟨d0, d0'⟩, ⟨d1, d1'⟩, ⟨d2, d2'⟩, ⟨d3, d3'⟩⟩ := hbd
              have hwk := wk_bd7 hq7 hsw 16 (by omega)
              have hstep : st L r (k + 1) = ⟨(st L r k).sc + wk (ls L k) q 16, (st L r k).lg + max q 0, (st L r k).sh + max (-q) 0,
                  if ((st L r k).lg = 0 ∧ (st L r k).sh = 0) ∨ lc L k < (st L r k).rt then lc L k else (st L r k).rt⟩ := by
                rw [st, HQ.out, if_neg (by rw [HRr.out]; simp [h0])]
              have HT := Lib.hid hstep
              have HOT := Lib.hid (show ∀ r' : Nat, r' ≠ r → st L r' (k + 1) = st L r' k from fun r' hr' => by rw [st, if_pos (Or.inr (by rw [HRr.out]; omega))])
              have cw := fun w => worst_any (ls L k) q w hsh hsw (by omega)
              clear hstep
              refine wp_region_tail 13 (by kernel_rfl) (by kernel_rfl) (by kernel_rfl) (by kernel_rfl) rfl rfl (by kernel_rfl) (by kernel_rfl) ?_
              simp only [List.take, List.getD, List.getElem?_cons_succ, List.getElem?_cons_zero, Option.getD]
              repeat (first | ((with_reducible apply q_skip); (case hw => rfl); (try simp only [Act.put, List.setIfInBounds_toArray, List.set_cons_zero, List.set_cons_succ])) | ((with_reducible refine at_qload 26 ?_); refine q_load_part (by rfl) 26 _ rfl (wr.heap.size) (6) rfl _ (L k) _ 16 (hg1) Try.underlying26 rfl (by kernel_rfl) (by rw [hleg.size]; omega) (ls L k) (rfl) ?_; try simp only [Act.put, List.setIfInBounds_toArray, List.set_cons_zero, List.set_cons_succ]) | ((with_reducible refine at_qcall 35 ?_); refine q_call_below _ 35 _ (by rfl) (cw) (fun wq hbq => by go_simp) ?_; try simp only [Act.put, List.setIfInBounds_toArray, List.set_cons_zero, List.set_cons_succ]) | ((with_reducible apply q_val); (case hw => rfl); (case hv => intro wq hbq; have hcq := (cells_of (Ytnpjclodcgejgaa.kept hbq hg1)).1; have hcr := (cells_of (Ytnpjclodcgejgaa.kept hbq hgR)).1; go_simp; try rfl); (try simp only [Act.put, List.setIfInBounds_toArray, List.set_cons_zero, List.set_cons_succ])))
              refine q_nil ?_
              intro w2 hb2
              have hg2R := Ytnpjclodcgejgaa.kept hb2 hgR
              have hg2X := Ytnpjclodcgejgaa.kept hb2 hg1
              obtain ⟨c2R, f2R, l2R⟩ := cells_of hg2R
              obtain ⟨c2X, f2X, l2X⟩ := cells_of hg2X
              have M2 : Mid (H := H) w w2 wr.heap.size (L k) R := Mid.below ⟨hgR, hg1, owns_kept hbx hown, below_then hb hbx, by have := (Array.getElem?_eq_some_iff.1 hg).1; omega⟩ hb2
              go_wp2_with fail
              refine at_world ?_
              intro w3 hw3
              have M3 := M2.set hw3
              have HW3 := Lib.hid hw3
              clear hw3
              have hR36 := HR.out.size
              obtain ⟨R3, hR3⟩ : ∃ R3, R3 = R.setIfInBounds (r * 4) (.int .i64 ((st L (↑r) k).sc + wk (ls L k) q 16)) := ⟨_, rfl⟩
              have b0 : R3[r * 4]? = some (.int .i64 ((st L (↑r) k).sc + wk (ls L k) q 16)) := by rw [hR3, Array.getElem?_setIfInBounds_self_of_lt (by omega)]
              have b1 : R3[r * 4 + 1]? = some (.int .i64 (st L (↑r) k).lg) := by rw [hR3, Array.getElem?_setIfInBounds_ne (by omega)]; exact a1
              have b2 : R3[r * 4 + 2]? = some (.int .i64 (st L (↑r) k).sh) := by rw [hR3, Array.getElem?_setIfInBounds_ne (by omega)]; exact a2
              have b3 : R3[r * 4 + 3]? = some (.int .i64 (st L (↑r) k).rt) := by rw [hR3, Array.getElem?_setIfInBounds_ne (by omega)]; exact a3
              rw [← hR3] at M3
              have hS3 := Lib.hid (show R3.size = 36 by rw [hR3]; simp [hR36])
              have b9 := Lib.hid (show ∀ i, i / 4 ≠ r → R3[i]? = R[i]? from fun i hi => by rw [hR3, Array.getElem?_setIfInBounds_ne (by omega)])
              have HR3 := Lib.hid hR3
              clear hR3 a0 a1 a2 a3 M2 c2R f2R c2X f2X hg2R hg2X l2R l2X
              have ac : (L k)[22]? = some (.int .i64 (lc L k)) := hleg.c22
              generalize hlcv : lc L k = cr at *
              have HC := Lib.hid hlcv
              clear hlcv
              generalize hscv : (st L (↑r) k).sc = sc at *
              generalize hlgv : (st L (↑r) k).lg = lg at *
              generalize hshv : (st L (↑r) k).sh = sh at *
              generalize hrtv : (st L (↑r) k).rt = rt at *
              clear hscv hlgv hshv hrtv
              go_cut [75] from 21 to 103 (fun c wx => Below w3.heap.size w3 wx ∧ c = .bool (decide ((lg = 0 ∧ sh = 0) ∨ cr < rt)))
              case first =>
                by_cases e1 : lg = 0
                · have e1' : (lg == 0) = true := by simpa using e1
                  by_cases e2 : sh = 0
                  · have e2' : (sh == 0) = true := by simpa using e2
                    have HV := Lib.hid (show decide ((lg = 0 ∧ sh = 0) ∨ cr < rt) = true by rw [decide_eq_true_eq]; omega)
                    refine wp_region_below (by kernel_rfl) (by kernel_rfl) ?_
                    repeat (first | ((with_reducible apply q_skip); (case hw => rfl); (try simp only [Act.put, List.setIfInBounds_toArray, List.set_cons_zero, List.set_cons_succ])) | ((with_reducible apply q_val); (case hw => rfl); (case hv => intro wq hbq; have hcq := (cells_of (M3.below hbq).x).1; have hcr := (cells_of (M3.below hbq).r).1; go_simp; try rfl); (try simp only [Act.put, List.setIfInBounds_toArray, List.set_cons_zero, List.set_cons_succ])))
                    refine q_nil ?_
                    intro w4 hb4
                    go_wp2_with fail
                    go_meet
                    exact ⟨hb4, by rw [HV.out]⟩
                  · have e2' : (sh == 0) = false := by simpa using e2
                    by_cases e3 : cr < rt
                    · have HV := Lib.hid (show decide ((lg = 0 ∧ sh = 0) ∨ cr < rt) = true by rw [decide_eq_true_eq]; omega)
                      refine wp_region_below (by kernel_rfl) (by kernel_rfl) ?_
                      repeat (first | ((with_reducible apply q_skip); (case hw => rfl); (try simp only [Act.put, List.setIfInBounds_toArray, List.set_cons_zero, List.set_cons_succ])) | ((with_reducible apply q_val); (case hw => rfl); (case hv => intro wq hbq; have hcq := (cells_of (M3.below hbq).x).1; have hcr := (cells_of (M3.below hbq).r).1; go_simp; try rfl); (try simp only [Act.put, List.setIfInBounds_toArray, List.set_cons_zero, List.set_cons_succ])))
                      refine q_nil ?_
                      intro w4 hb4
                      go_wp2_with fail
                      go_meet
                      exact ⟨hb4, by rw [HV.out]⟩
                    · have HV := Lib.hid (show decide ((lg = 0 ∧ sh = 0) ∨ cr < rt) = false by rw [decide_eq_false_iff_not]; omega)
                      refine wp_region_below (by kernel_rfl) (by kernel_rfl) ?_
                      repeat (first | ((with_reducible apply q_skip); (case hw => rfl); (try simp only [Act.put, List.setIfInBounds_toArray, List.set_cons_zero, List.set_cons_succ])) | ((with_reducible apply q_val); (case hw => rfl); (case hv => intro wq hbq; have hcq := (cells_of (M3.below hbq).x).1; have hcr := (cells_of (M3.below hbq).r).1; go_simp; try rfl); (try simp only [Act.put, List.setIfInBounds_toArray, List.set_cons_zero, List.set_cons_succ])))
                      refine q_nil ?_
                      intro w4 hb4
                      go_wp2_with fail
                      go_meet
                      exact ⟨hb4, by rw [HV.out]⟩
                · have e1' : (lg == 0) = false := by simpa using e1
                  by_cases e3 : cr < rt
                  · have HV := Lib.hid (show decide ((lg = 0 ∧ sh = 0) ∨ cr < rt) = true by rw [decide_eq_true_eq]; omega)
                    refine wp_region_below (by kernel_rfl) (by kernel_rfl) ?_
                    repeat (first | ((with_reducible apply q_skip); (case hw => rfl); (try simp only [Act.put, List.setIfInBounds_toArray, List.set_cons_zero, List.set_cons_succ])) | ((with_reducible apply q_val); (case hw => rfl); (case hv => intro wq hbq; have hcq := (cells_of (M3.below hbq).x).1; have hcr := (cells_of (M3.below hbq).r).1; go_simp; try rfl); (try simp only [Act.put, List.setIfInBounds_toArray, List.set_cons_zero, List.set_cons_succ])))
                    refine q_nil ?_
                    intro w4 hb4
                    go_wp2_with fail
                    go_meet
                    exact ⟨hb4, by rw [HV.out]⟩
                  · have HV := Lib.hid (show decide ((lg = 0 ∧ sh = 0) ∨ cr < rt) = false by rw [decide_eq_false_iff_not]; omega)
                    refine wp_region_below (by kernel_rfl) (by kernel_rfl) ?_
                    repeat (first | ((with_reducible apply q_skip); (case hw => rfl); (try simp only [Act.put, List.setIfInBounds_toArray, List.set_cons_zero, List.set_cons_succ])) | ((with_reducible apply q_val); (case hw => rfl); (case hv => intro wq hbq; have hcq := (cells_of (M3.below hbq).x).1; have hcr := (cells_of (M3.below hbq).r).1; go_simp; try rfl); (try simp only [Act.put, List.setIfInBounds_toArray, List.set_cons_zero, List.set_cons_succ])))
                    refine q_nil ?_
                    intro w4 hb4
                    go_wp2_with fail
                    go_meet
                    exact ⟨hb4, by rw [HV.out]⟩
              case rest =>
                obtain ⟨hbc, rfl⟩ := hcut
                have M4 := M3.below hbc
                clear M3
                obtain ⟨c4X, f4X, _⟩ := cells_of M4.x
                obtain ⟨c4R, f4R, _⟩ := cells_of M4.r
                by_cases htk : (lg = 0 ∧ sh = 0) ∨ cr < rt
                · have HV := Lib.hid (show (if (lg = 0 ∧ sh = 0) ∨ cr < rt then cr else rt) = cr by rw [if_pos htk])
                  have htd : decide ((lg = 0 ∧ sh = 0) ∨ cr < rt) = true := decide_eq_true htk
                  rw [htd]
                  go_wp2_with fail
                  refine at_world ?_
                  intro w5 hw5
                  have M5 := M4.set hw5
                  clear M4 c4X f4X c4R f4R
                  have HW5 := Lib.hid hw5
                  clear hw5
                  obtain ⟨R5, hR5⟩ : ∃ R5, R5 = R3.setIfInBounds (r * 4 + 3) (.int .i64 cr) := ⟨_, rfl⟩
                  rw [← hR5] at M5
                  have hS5 : R5.size = 36 := by rw [hR5]; simp [hS3.out]
                  have g0 : R5[r * 4]? = some (.int .i64 (sc + wk (ls L k) q 16)) := by rw [hR5, Array.getElem?_setIfInBounds_ne (by omega)]; exact b0
                  have g1 : R5[r * 4 + 1]? = some (.int .i64 lg) := by rw [hR5, Array.getElem?_setIfInBounds_ne (by omega)]; exact b1
                  have g2 : R5[r * 4 + 2]? = some (.int .i64 sh) := by rw [hR5, Array.getElem?_setIfInBounds_ne (by omega)]; exact b2
                  have g3 : R5[r * 4 + 3]? = some (.int .i64 (if (lg = 0 ∧ sh = 0) ∨ cr < rt then cr else rt)) := by rw [HV.out, hR5, Array.getElem?_setIfInBounds_self_of_lt (by rw [hS3.out]; omega)]
                  have g9 : ∀ i, i / 4 ≠ r → R5[i]? = R[i]? := fun i hi => by rw [hR5, Array.getElem?_setIfInBounds_ne (by omega)]; exact b9.out i hi
                  have HR5 := Lib.hid (And.intro hS5 (And.intro g0 (And.intro g3 g9)))
                  clear hR5 hS5 g0 g3 g9 b0 b1 b2 b3
                  by_cases hqs : 0 < q
                  · have HMX := Lib.hid (show max q 0 = q by omega)
                    refine wp_region_tail 10 (by kernel_rfl) (by kernel_rfl) (by kernel_rfl) (by kernel_rfl) rfl rfl (by kernel_rfl) (by kernel_rfl) ?_
                    simp only [List.take, List.getD, List.getElem?_cons_succ, List.getElem?_cons_zero, Option.getD]
                    repeat (first | ((with_reducible apply q_skip); (case hw => rfl); (try simp only [Act.put, List.setIfInBounds_toArray, List.set_cons_zero, List.set_cons_succ])) | ((with_reducible apply q_val); (case hw => rfl); (case hv => intro wq hbq; have hcq := (cells_of (M5.below hbq).x).1; have hcr := (cells_of (M5.below hbq).r).1; go_simp; try rfl); (try simp only [Act.put, List.setIfInBounds_toArray, List.set_cons_zero, List.set_cons_succ])))
                    refine q_nil ?_
                    intro w6 hb6
                    have M6 := M5.below hb6
                    clear M5
                    obtain ⟨c6X, f6X, _⟩ := cells_of M6.x
                    obtain ⟨c6R, f6R, _⟩ := cells_of M6.r
                    go_wp2_with fail
                    refine at_world ?_
                    intro w7 hw7
                    have M7 := Mid.val (v' := lg + max q 0) (M6.set hw7) (by have := HMX.out; omega)
                    clear M6 c6X f6X c6R f6R
                    have HW7 := Lib.hid hw7
                    clear hw7
                    have hL7 := HR5.out
                    obtain ⟨R7, hR7⟩ : ∃ R7, R7 = R5.setIfInBounds (r * 4 + 1) (.int .i64 (lg + max q 0)) := ⟨_, rfl⟩
                    have h71 : R7[r * 4 + 1]? = some (.int .i64 (lg + max q 0)) := by rw [hR7, Array.getElem?_setIfInBounds_self_of_lt (by rw [hL7.1]; omega)]
                    have h72 : R7[r * 4 + 2]? = some (.int .i64 sh) := by rw [hR7, Array.getElem?_setIfInBounds_ne (by omega)]; exact g2
                    have H7 := Lib.hid (show R7.size = 36 ∧ R7[r * 4]? = some (.int .i64 (sc + wk (ls L k) q 16)) ∧ R7[r * 4 + 1]? = some (.int .i64 (lg + max q 0)) ∧ R7[r * 4 + 3]? = some (.int .i64 (if (lg = 0 ∧ sh = 0) ∨ cr < rt then cr else rt)) ∧ ∀ i, i / 4 ≠ r → R7[i]? = R[i]? from
                      ⟨by rw [hR7]; simp [hL7.1], by rw [hR7, Array.getElem?_setIfInBounds_ne (by omega)]; exact hL7.2.1, h71, by rw [hR7, Array.getElem?_setIfInBounds_ne (by omega)]; exact hL7.2.2.1,
                        fun i hi => by rw [hR7, Array.getElem?_setIfInBounds_ne (by omega)]; exact hL7.2.2.2 i hi⟩)
                    have HM0 := Lib.hid (show max q 0 = _ from HMX.out)
                    rw [← hR7] at M7
                    clear hR7 hL7 h71 g1 g2
                    refine wp_region_tail 11 (by kernel_rfl) (by kernel_rfl) (by kernel_rfl) (by kernel_rfl) rfl rfl (by kernel_rfl) (by kernel_rfl) ?_
                    simp only [List.take, List.getD, List.getElem?_cons_succ, List.getElem?_cons_zero, Option.getD]
                    repeat (first | ((with_reducible apply q_skip); (case hw => rfl); (try simp only [Act.put, List.setIfInBounds_toArray, List.set_cons_zero, List.set_cons_succ])) | ((with_reducible apply q_val); (case hw => rfl); (case hv => intro wq hbq; have hcq := (cells_of (M7.below hbq).x).1; have hcr := (cells_of (M7.below hbq).r).1; go_simp; try rfl); (try simp only [Act.put, List.setIfInBounds_toArray, List.set_cons_zero, List.set_cons_succ])))
                    refine q_nil ?_
                    have hwq : IntKind.i64.wrap (-q) = -q := IntWalk.i64_in _ (by omega)
                    intro w8 hb8
                    have M8 := M7.below hb8
                    clear M7
                    obtain ⟨c8X, f8X, _⟩ := cells_of M8.x
                    obtain ⟨c8R, f8R, _⟩ := cells_of M8.r
                    go_wp2_with fail
                    go_roundg (n - (k + 1))
                    case measure => omega
                    case rel => exact step_rel hlt hr8 HR.out HK.out M8 rfl (by omega) HT.out HOT.out H7.out
                  · have HMX := Lib.hid (show max q 0 = 0 by omega)
                    refine wp_region_tail 10 (by kernel_rfl) (by kernel_rfl) (by kernel_rfl) (by kernel_rfl) rfl rfl (by kernel_rfl) (by kernel_rfl) ?_
                    simp only [List.take, List.getD, List.getElem?_cons_succ, List.getElem?_cons_zero, Option.getD]
                    repeat (first | ((with_reducible apply q_skip); (case hw => rfl); (try simp only [Act.put, List.setIfInBounds_toArray, List.set_cons_zero, List.set_cons_succ])) | ((with_reducible apply q_val); (case hw => rfl); (case hv => intro wq hbq; have hcq := (cells_of (M5.below hbq).x).1; have hcr := (cells_of (M5.below hbq).r).1; go_simp; try rfl); (try simp only [Act.put, List.setIfInBounds_toArray, List.set_cons_zero, List.set_cons_succ])))
                    refine q_nil ?_
                    intro w6 hb6
                    have M6 := M5.below hb6
                    clear M5
                    obtain ⟨c6X, f6X, _⟩ := cells_of M6.x
                    obtain ⟨c6R, f6R, _⟩ := cells_of M6.r
                    go_wp2_with fail
                    refine at_world ?_
                    intro w7 hw7
                    have M7 := Mid.val (v' := lg + max q 0) (M6.set hw7) (by have := HMX.out; omega)
                    clear M6 c6X f6X c6R f6R
                    have HW7 := Lib.hid hw7
                    clear hw7
                    have hL7 := HR5.out
                    obtain ⟨R7, hR7⟩ : ∃ R7, R7 = R5.setIfInBounds (r * 4 + 1) (.int .i64 (lg + max q 0)) := ⟨_, rfl⟩
                    have h71 : R7[r * 4 + 1]? = some (.int .i64 (lg + max q 0)) := by rw [hR7, Array.getElem?_setIfInBounds_self_of_lt (by rw [hL7.1]; omega)]
                    have h72 : R7[r * 4 + 2]? = some (.int .i64 sh) := by rw [hR7, Array.getElem?_setIfInBounds_ne (by omega)]; exact g2
                    have H7 := Lib.hid (show R7.size = 36 ∧ R7[r * 4]? = some (.int .i64 (sc + wk (ls L k) q 16)) ∧ R7[r * 4 + 1]? = some (.int .i64 (lg + max q 0)) ∧ R7[r * 4 + 3]? = some (.int .i64 (if (lg = 0 ∧ sh = 0) ∨ cr < rt then cr else rt)) ∧ ∀ i, i / 4 ≠ r → R7[i]? = R[i]? from
                      ⟨by rw [hR7]; simp [hL7.1], by rw [hR7, Array.getElem?_setIfInBounds_ne (by omega)]; exact hL7.2.1, h71, by rw [hR7, Array.getElem?_setIfInBounds_ne (by omega)]; exact hL7.2.2.1,
                        fun i hi => by rw [hR7, Array.getElem?_setIfInBounds_ne (by omega)]; exact hL7.2.2.2 i hi⟩)
                    have HM0 := Lib.hid (show max q 0 = _ from HMX.out)
                    rw [← hR7] at M7
                    clear hR7 hL7 h71 g1 g2
                    refine wp_region_tail 11 (by kernel_rfl) (by kernel_rfl) (by kernel_rfl) (by kernel_rfl) rfl rfl (by kernel_rfl) (by kernel_rfl) ?_
                    simp only [List.take, List.getD, List.getElem?_cons_succ, List.getElem?_cons_zero, Option.getD]
                    repeat (first | ((with_reducible apply q_skip); (case hw => rfl); (try simp only [Act.put, List.setIfInBounds_toArray, List.set_cons_zero, List.set_cons_succ])) | ((with_reducible apply q_val); (case hw => rfl); (case hv => intro wq hbq; have hcq := (cells_of (M7.below hbq).x).1; have hcr := (cells_of (M7.below hbq).r).1; go_simp; try rfl); (try simp only [Act.put, List.setIfInBounds_toArray, List.set_cons_zero, List.set_cons_succ])))
                    refine q_nil ?_
                    have hwq : IntKind.i64.wrap (-q) = -q := IntWalk.i64_in _ (by omega)
                    intro w8 hb8
                    have M8 := M7.below hb8
                    clear M7
                    obtain ⟨c8X, f8X, _⟩ := cells_of M8.x
                    obtain ⟨c8R, f8R, _⟩ := cells_of M8.r
                    go_wp2_with fail
                    go_roundg (n - (k + 1))
                    case measure => omega
                    case rel => exact step_rel hlt hr8 HR.out HK.out M8 rfl (by omega) HT.out HOT.out H7.out
                · have HV := Lib.hid (show (if (lg = 0 ∧ sh = 0) ∨ cr < rt then cr else rt) = rt by rw [if_neg htk])
                  have htd : decide ((lg = 0 ∧ sh = 0) ∨ cr < rt) = false := decide_eq_false htk
                  rw [htd]
                  go_wp2_with fail
                  obtain ⟨w5, hw5⟩ : ∃ w5, w5 = wc := ⟨_, rfl⟩
                  rw [← hw5] at M4 ⊢
                  have M5 := M4
                  clear M4 c4X f4X c4R f4R hw5
                  obtain ⟨R5, hR5⟩ : ∃ R5, R5 = R3 := ⟨_, rfl⟩
                  rw [← hR5] at M5
                  have g1 : R5[r * 4 + 1]? = some (.int .i64 lg) := by rw [hR5]; exact b1
                  have g2 : R5[r * 4 + 2]? = some (.int .i64 sh) := by rw [hR5]; exact b2
                  have HR5 := Lib.hid (show R5.size = 36 ∧ R5[r * 4]? = some (.int .i64 (sc + wk (ls L k) q 16)) ∧ R5[r * 4 + 3]? = some (.int .i64 (if (lg = 0 ∧ sh = 0) ∨ cr < rt then cr else rt)) ∧ ∀ i, i / 4 ≠ r → R5[i]? = R[i]? by
                    rw [hR5, HV.out]; exact ⟨hS3.out, b0, b3, b9.out⟩)
                  clear hR5 b0 b1 b2 b3
                  by_cases hqs : 0 < q
                  · have HMX := Lib.hid (show max q 0 = q by omega)
                    refine wp_region_tail 10 (by kernel_rfl) (by kernel_rfl) (by kernel_rfl) (by kernel_rfl) rfl rfl (by kernel_rfl) (by kernel_rfl) ?_
                    simp only [List.take, List.getD, List.getElem?_cons_succ, List.getElem?_cons_zero, Option.getD]
                    repeat (first | ((with_reducible apply q_skip); (case hw => rfl); (try simp only [Act.put, List.setIfInBounds_toArray, List.set_cons_zero, List.set_cons_succ])) | ((with_reducible apply q_val); (case hw => rfl); (case hv => intro wq hbq; have hcq := (cells_of (M5.below hbq).x).1; have hcr := (cells_of (M5.below hbq).r).1; go_simp; try rfl); (try simp only [Act.put, List.setIfInBounds_toArray, List.set_cons_zero, List.set_cons_succ])))
                    refine q_nil ?_
                    intro w6 hb6
                    have M6 := M5.below hb6
                    clear M5
                    obtain ⟨c6X, f6X, _⟩ := cells_of M6.x
                    obtain ⟨c6R, f6R, _⟩ := cells_of M6.r
                    go_wp2_with fail
                    refine at_world ?_
                    intro w7 hw7
                    have M7 := Mid.val (v' := lg + max q 0) (M6.set hw7) (by have := HMX.out; omega)
                    clear M6 c6X f6X c6R f6R
                    have HW7 := Lib.hid hw7
                    clear hw7
                    have hL7 := HR5.out
                    obtain ⟨R7, hR7⟩ : ∃ R7, R7 = R5.setIfInBounds (r * 4 + 1) (.int .i64 (lg + max q 0)) := ⟨_, rfl⟩
                    have h71 : R7[r * 4 + 1]? = some (.int .i64 (lg + max q 0)) := by rw [hR7, Array.getElem?_setIfInBounds_self_of_lt (by rw [hL7.1]; omega)]
                    have h72 : R7[r * 4 + 2]? = some (.int .i64 sh) := by rw [hR7, Array.getElem?_setIfInBounds_ne (by omega)]; exact g2
                    have H7 := Lib.hid (show R7.size = 36 ∧ R7[r * 4]? = some (.int .i64 (sc + wk (ls L k) q 16)) ∧ R7[r * 4 + 1]? = some (.int .i64 (lg + max q 0)) ∧ R7[r * 4 + 3]? = some (.int .i64 (if (lg = 0 ∧ sh = 0) ∨ cr < rt then cr else rt)) ∧ ∀ i, i / 4 ≠ r → R7[i]? = R[i]? from
                      ⟨by rw [hR7]; simp [hL7.1], by rw [hR7, Array.getElem?_setIfInBounds_ne (by omega)]; exact hL7.2.1, h71, by rw [hR7, Array.getElem?_setIfInBounds_ne (by omega)]; exact hL7.2.2.1,
                        fun i hi => by rw [hR7, Array.getElem?_setIfInBounds_ne (by omega)]; exact hL7.2.2.2 i hi⟩)
                    have HM0 := Lib.hid (show max q 0 = _ from HMX.out)
                    rw [← hR7] at M7
                    clear hR7 hL7 h71 g1 g2
                    refine wp_region_tail 11 (by kernel_rfl) (by kernel_rfl) (by kernel_rfl) (by kernel_rfl) rfl rfl (by kernel_rfl) (by kernel_rfl) ?_
                    simp only [List.take, List.getD, List.getElem?_cons_succ, List.getElem?_cons_zero, Option.getD]
                    repeat (first | ((with_reducible apply q_skip); (case hw => rfl); (try simp only [Act.put, List.setIfInBounds_toArray, List.set_cons_zero, List.set_cons_succ])) | ((with_reducible apply q_val); (case hw => rfl); (case hv => intro wq hbq; have hcq := (cells_of (M7.below hbq).x).1; have hcr := (cells_of (M7.below hbq).r).1; go_simp; try rfl); (try simp only [Act.put, List.setIfInBounds_toArray, List.set_cons_zero, List.set_cons_succ])))
                    refine q_nil ?_
                    have hwq : IntKind.i64.wrap (-q) = -q := IntWalk.i64_in _ (by omega)
                    intro w8 hb8
                    have M8 := M7.below hb8
                    clear M7
                    obtain ⟨c8X, f8X, _⟩ := cells_of M8.x
                    obtain ⟨c8R, f8R, _⟩ := cells_of M8.r
                    go_wp2_with fail
                    go_roundg (n - (k + 1))
                    case measure => omega
                    case rel => exact step_rel hlt hr8 HR.out HK.out M8 rfl (by omega) HT.out HOT.out H7.out
                  · have HMX := Lib.hid (show max q 0 = 0 by omega)
                    refine wp_region_tail 10 (by kernel_rfl) (by kernel_rfl) (by kernel_rfl) (by kernel_rfl) rfl rfl (by kernel_rfl) (by kernel_rfl) ?_
                    simp only [List.take, List.getD, List.getElem?_cons_succ, List.getElem?_cons_zero, Option.getD]
                    repeat (first | ((with_reducible apply q_skip); (case hw => rfl); (try simp only [Act.put, List.setIfInBounds_toArray, List.set_cons_zero, List.set_cons_succ])) | ((with_reducible apply q_val); (case hw => rfl); (case hv => intro wq hbq; have hcq := (cells_of (M5.below hbq).x).1; have hcr := (cells_of (M5.below hbq).r).1; go_simp; try rfl); (try simp only [Act.put, List.setIfInBounds_toArray, List.set_cons_zero, List.set_cons_succ])))
                    refine q_nil ?_
                    intro w6 hb6
                    have M6 := M5.below hb6
                    clear M5
                    obtain ⟨c6X, f6X, _⟩ := cells_of M6.x
                    obtain ⟨c6R, f6R, _⟩ := cells_of M6.r
                    go_wp2_with fail
                    refine at_world ?_
                    intro w7 hw7
                    have M7 := Mid.val (v' := lg + max q 0) (M6.set hw7) (by have := HMX.out; omega)
                    clear M6 c6X f6X c6R f6R
                    have HW7 := Lib.hid hw7
                    clear hw7
                    have hL7 := HR5.out
                    obtain ⟨R7, hR7⟩ : ∃ R7, R7 = R5.setIfInBounds (r * 4 + 1) (.int .i64 (lg + max q 0)) := ⟨_, rfl⟩
                    have h71 : R7[r * 4 + 1]? = some (.int .i64 (lg + max q 0)) := by rw [hR7, Array.getElem?_setIfInBounds_self_of_lt (by rw [hL7.1]; omega)]
                    have h72 : R7[r * 4 + 2]? = some (.int .i64 sh) := by rw [hR7, Array.getElem?_setIfInBounds_ne (by omega)]; exact g2
                    have H7 := Lib.hid (show R7.size = 36 ∧ R7[r * 4]? = some (.int .i64 (sc + wk (ls L k) q 16)) ∧ R7[r * 4 + 1]? = some (.int .i64 (lg + max q 0)) ∧ R7[r * 4 + 3]? = some (.int .i64 (if (lg = 0 ∧ sh = 0) ∨ cr < rt then cr else rt)) ∧ ∀ i, i / 4 ≠ r → R7[i]? = R[i]? from
                      ⟨by rw [hR7]; simp [hL7.1], by rw [hR7, Array.getElem?_setIfInBounds_ne (by omega)]; exact hL7.2.1, h71, by rw [hR7, Array.getElem?_setIfInBounds_ne (by omega)]; exact hL7.2.2.1,
                        fun i hi => by rw [hR7, Array.getElem?_setIfInBounds_ne (by omega)]; exact hL7.2.2.2 i hi⟩)
                    have HM0 := Lib.hid (show max q 0 = _ from HMX.out)
                    rw [← hR7] at M7
                    clear hR7 hL7 h71 g1 g2
                    refine wp_region_tail 11 (by kernel_rfl) (by kernel_rfl) (by kernel_rfl) (by kernel_rfl) rfl rfl (by kernel_rfl) (by kernel_rfl) ?_
                    simp only [List.take, List.getD, List.getElem?_cons_succ, List.getElem?_cons_zero, Option.getD]
                    repeat (first | ((with_reducible apply q_skip); (case hw => rfl); (try simp only [Act.put, List.setIfInBounds_toArray, List.set_cons_zero, List.set_cons_succ])) | ((with_reducible apply q_val); (case hw => rfl); (case hv => intro wq hbq; have hcq := (cells_of (M7.below hbq).x).1; have hcr := (cells_of (M7.below hbq).r).1; go_simp; try rfl); (try simp only [Act.put, List.setIfInBounds_toArray, List.set_cons_zero, List.set_cons_succ])))
                    refine q_nil ?_
                    have hwq : IntKind.i64.wrap (-q) = -q := IntWalk.i64_in _ (by omega)
                    intro w8 hb8
                    have M8 := M7.below hb8
                    clear M7
                    obtain ⟨c8X, f8X, _⟩ := cells_of M8.x
                    obtain ⟨c8R, f8R, _⟩ := cells_of M8.r
                    go_wp2_with fail
                    go_roundg (n - (k + 1))
                    case measure => omega
                    case rel => exact step_rel hlt hr8 HR.out HK.out M8 rfl (by omega) HT.out HOT.out H7.out
      · obtain rfl : k = n := by omega
        have HRN := Lib.hid hR
        have HOK := Lib.hid hok
        clear hR hok
        go_wp2
        go_loopg [106] k (fun gh i w2 => ∃ (j : Nat) (D : DataW H), j ≤ k ∧ gh = k - j ∧ i = .int .i64 j ∧ onceTo L j = true ∧ Cnt L j D ∧ w2.heap[w.heap.size]? = some (.cells R 85 (0, 0)) ∧
          w2.ownsMap Try.prog 25 (plainElem (H := H) Try.prog 3) (w.heap.size + 1) j D ∧ Below w.heap.size w w2)
        case atStart => exact ⟨0, .map [], by omega, by omega, rfl, rfl, cnt_zero L, hg, hown, hb⟩
        case round =>
          clear hg hown hb
          obtain ⟨j, D, hj, rfl, rfl, hon, hcn, hg, hown, hb⟩ := hrel
          by_cases hlt : j < k
          · obtain ⟨g, off, A, t, fr, rfl, hgA, hszA, hexA⟩ := (HA.out.kept hb) j hlt
            have hleg := HL.out j
            obtain ⟨an, bn⟩ := hleg.c0
            have hkey : keyOf Try.prog 25 (.int .u32 (ln L j)) = some (.int .u32 (ln L j)) := keyOf_int_mk Try.underlying25 (u32_wf bn)
            have HE := Lib.hid hexA
            have HZ := Lib.hid hszA
            have HON := Lib.hid hon
            have HC := Lib.hid hcn
            clear hexA hszA hon hcn
            have hown2 := owns_kept (below_new wr (.cells (L j) 30)) hown
            cases hsn : seenTo L (ln L j) j
            · have hcn1 := cnt_step HC.out hsn
              have hat0 := HC.out.2 (ln L j)
              rw [hsn] at hat0
              have HAT := Lib.hid hat0
              have HC1 := Lib.hid hcn1
              have HON1 := Lib.hid (show onceTo L (j + 1) = true by simp [onceTo, HON.out, hsn])
              clear hat0 hcn1 hsn
              generalize ln L j = num at *
              go_wp2_with (first | ((with_reducible refine at_load 30 ?_); refine wpList_load_part rfl 30 _ rfl (g) ((off + j * 26)) rfl _ (A) _ _ 26 (hgA) Try.underlying30 rfl (by kernel_rfl) (by have := HZ.out; omega) (L j) (HE.out) ?_) | ((with_reducible refine at_alloc 30 ?_); refine wpList_alloc_named rfl 30 rfl (z26) (by kernel_rfl) ?_) | ((with_reducible refine at_store 30 ?_); refine wpList_store_new rfl 30 _ _ rfl (L j) _ _ _ rfl (by simp) rfl (by rw [hleg.size]; kernel_rfl) (by rw [hleg.size]; rfl) (hleg.all) ?_) | (at_lookup; refine wpList_lookup_own_int _ rfl _ _ 86 rfl 25 3 .i64 lawK Try.underlying86 Try.underlying3 (zeroI _) (w.heap.size + 1) j D rfl hown2 (.int .u32 num) (.int .u32 num) rfl hkey ?_; intro c hat hwc; obtain rfl : c = 0 := lit_inj (hat.symm.trans HAT.out); clear hat hwc) | (at_lookup; refine wpList_lookup_own_int _ rfl _ _ 86 rfl 25 3 .i64 lawK Try.underlying86 Try.underlying3 (zeroI _) (w.heap.size + 1) (j + 1) (D.put (.int .u32 num) (.lit (.int .i64 1))) rfl hown1 (.int .u32 num) (.int .u32 num) rfl hkey ?_; intro c hat hwc; obtain rfl : c = 1 := lit_inj (hat.symm.trans (atKey_put_same HC.out.1 (show WideAt.IsKeyLit (.int .u32 num) from trivial) _ _)); clear hat hwc) | (at_mapUpdate; refine wpList_mapUpdate_own _ rfl _ _ _ 86 rfl 25 3 lawK Try.underlying86 _ (w.heap.size + 1) j D rfl hown2 (by unfold maxLen; omega) _ _ _ rfl rfl hkey _ [] (plainElem_int (q := .i64) (a := 1) Try.underlying3 (by decide)) ?_; intro w1 hown1 hgrow1; have hg1 := (hgrow1.block wr.heap.size (by simp) (by simp; have := hown.lt; omega)).trans (heap_alloc_new _ _); have hc1 := (cells_of hg1).1))
              go_roundg (k - (j + 1))
              case measure => omega
              case rel =>
                have hb2 := below_then hb (below_new wr (.cells (L j) 30))
                exact ⟨j + 1, _, by omega, rfl, by go_num, HON1.out, HC1.out, (hgrow1.block w.heap.size (by have := hown2.lt; omega) (by simp)).trans (Ytnpjclodcgejgaa.kept (below_new _ _) hg), hown1,
                  hb2.grown hgrow1 hb2.size (fun j hj => by cases hj; omega)⟩
            · have hat0 := HC.out.2 (ln L j)
              rw [hsn] at hat0
              have HAT := Lib.hid hat0
              have hno : onceTo L k = false := by
                rw [Bool.eq_false_iff]; intro h'
                have := onceTo_mono h' (show j + 1 ≤ k by omega)
                simp [onceTo, hsn] at this
              have HM := Lib.hid (And.intro (show mN L k = 0 by rw [HF.out.1, HOK.out, hno]; rfl) (show mE L k = 8 by rw [HF.out.2, HOK.out, hno]; rfl))
              clear hat0 hsn hno
              generalize ln L j = num at *
              go_wp2_with (first | ((with_reducible refine at_load 30 ?_); refine wpList_load_part rfl 30 _ rfl (g) ((off + j * 26)) rfl _ (A) _ _ 26 (hgA) Try.underlying30 rfl (by kernel_rfl) (by have := HZ.out; omega) (L j) (HE.out) ?_) | ((with_reducible refine at_alloc 30 ?_); refine wpList_alloc_named rfl 30 rfl (z26) (by kernel_rfl) ?_) | ((with_reducible refine at_store 30 ?_); refine wpList_store_new rfl 30 _ _ rfl (L j) _ _ _ rfl (by simp) rfl (by rw [hleg.size]; kernel_rfl) (by rw [hleg.size]; rfl) (hleg.all) ?_) | (at_lookup; refine wpList_lookup_own_int _ rfl _ _ 86 rfl 25 3 .i64 lawK Try.underlying86 Try.underlying3 (zeroI _) (w.heap.size + 1) j D rfl hown2 (.int .u32 num) (.int .u32 num) rfl hkey ?_; intro c hat hwc; obtain rfl : c = 1 := lit_inj (hat.symm.trans HAT.out); clear hat hwc) | (at_lookup; refine wpList_lookup_own_int _ rfl _ _ 86 rfl 25 3 .i64 lawK Try.underlying86 Try.underlying3 (zeroI _) (w.heap.size + 1) (j + 1) (D.put (.int .u32 num) (.lit (.int .i64 2))) rfl hown1 (.int .u32 num) (.int .u32 num) rfl hkey ?_; intro c hat hwc; obtain rfl : c = 2 := lit_inj (hat.symm.trans (atKey_put_same HC.out.1 (show WideAt.IsKeyLit (.int .u32 num) from trivial) _ _)); clear hat hwc) | (at_mapUpdate; refine wpList_mapUpdate_own _ rfl _ _ _ 86 rfl 25 3 lawK Try.underlying86 _ (w.heap.size + 1) j D rfl hown2 (by unfold maxLen; omega) _ _ _ rfl rfl hkey _ [] (plainElem_int (q := .i64) (a := 2) Try.underlying3 (by decide)) ?_; intro w1 hown1 hgrow1; have hg1 := (hgrow1.block wr.heap.size (by simp) (by simp; have := hown.lt; omega)).trans (heap_alloc_new _ _); have hc1 := (cells_of hg1).1))
              go_ret2
              have hb2 := below_then hb (below_new wr (.cells (L j) 30))
              exact ⟨by rw [HM.out.1, HM.out.2]; rfl, hb2.grown hgrow1 hb2.size (fun j hj => by cases hj; omega)⟩
          · obtain rfl : j = k := by omega
            clear hown hcn
            have HM := Lib.hid (And.intro (show mN L j = sumTo L j 9 by rw [HF.out.1, HOK.out, hon]; rfl) (show mE L j = 0 by rw [HF.out.2, HOK.out, hon]; rfl))
            clear hon
            go_wp2
            go_loopg [11, 123] 9 (fun gh s i wr => ∃ r : Nat, r ≤ 9 ∧ gh = 9 - r ∧ i = .int .i64 r ∧ s = .int .i64 (sumTo L j r) ∧ wr.heap[w.heap.size]? = some (.cells R 85 (0, 0)) ∧ Below w.heap.size w wr)
            case atStart => exact ⟨0, by omega, by omega, rfl, rfl, hg, hb⟩
            case round =>
              clear hg hb
              obtain ⟨r, hr, rfl, rfl, rfl, hg, hb⟩ := hrel
              have hbs := sum_bd HL.out j HOK.out (by omega) r
              by_cases hlt : r < 9
              · obtain ⟨Rr, hRr⟩ : ∃ Rr, Rr = R.extract (r * 4) (r * 4 + 4) := ⟨_, rfl⟩
                have hsz := HRN.out.size
                have hRs : Rr.size = 4 := by rw [hRr]; simp; omega
                have r0 : Rr[0]? = some (.int .i64 (st L (r : Int) j).sc) := by rw [hRr, Array.getElem?_extract, if_pos (by omega)]; exact HRN.out.sc r hlt
                have r1 : Rr[1]? = some (.int .i64 (st L (r : Int) j).lg) := by rw [hRr, Array.getElem?_extract, if_pos (by omega)]; exact HRN.out.lg r hlt
                have r2 : Rr[2]? = some (.int .i64 (st L (r : Int) j).sh) := by rw [hRr, Array.getElem?_extract, if_pos (by omega)]; exact HRN.out.sh r hlt
                have r3 : Rr[3]? = some (.int .i64 (st L (r : Int) j).rt) := by rw [hRr, Array.getElem?_extract, if_pos (by omega)]; exact HRN.out.rt r hlt
                have HRr := Lib.hid hRr.symm
                have HRs := Lib.hid hRs
                have HSZ := Lib.hid hsz
                have HRall := Lib.hid (show Rr.all (·.oneCell') = true from all_one fun i v hv => by
                  have hi : i < 4 := by have := (Array.getElem?_eq_some_iff.1 hv).1; omega
                  have : i = 0 ∨ i = 1 ∨ i = 2 ∨ i = 3 := by omega
                  rcases this with rfl | rfl | rfl | rfl
                  · rw [r0] at hv; cases hv; rfl
                  · rw [r1] at hv; cases hv; rfl
                  · rw [r2] at hv; cases hv; rfl
                  · rw [r3] at hv; cases hv; rfl)
                clear hRr hRs hsz
                obtain ⟨⟨d0, d0'⟩, ⟨d1, d1'⟩, ⟨d2, d2'⟩, ⟨d3, d3'⟩⟩ := st_bd HL.out (r : Int) j HOK.out
                have HS := Lib.hid (show sumTo L j (r + 1) = sumTo L j r + max 0 ((st L (r : Int) j).sc - min (st L (r : Int) j).lg (st L (r : Int) j).sh * (st L (r : Int) j).rt) from rfl)
                generalize (st L (r : Int) j).sc = sc at *
                generalize (st L (r : Int) j).lg = lg at *
                generalize (st L (r : Int) j).sh = sh at *
                generalize (st L (r : Int) j).rt = rt at *
                generalize hss : sumTo L j r = sm at *
                clear hss
                have hbs0 := hbs.1
                have hbs1 : sm ≤ 14400000000000000 := by omega
                by_cases hls : lg ≤ sh
                · have hp1 : 0 ≤ lg * rt := Int.mul_nonneg d1 d3
                  have hp2 : lg * rt ≤ 160000000 * 10000000 := Int.mul_le_mul (by omega) d3' d3 (by omega)
                  have HMN := Lib.hid (show min lg sh = lg by omega)
                  go_wp2_with (first | ((with_reducible refine at_load 84 ?_); refine wpList_load_part rfl 84 _ rfl (w.heap.size) ((r * 4)) rfl _ (R) _ _ 4 (hg) Try.underlying84 rfl (by kernel_rfl) (by have := HSZ.out; omega) (Rr) (HRr.out) ?_) | ((with_reducible refine at_alloc 84 ?_); refine wpList_alloc_named rfl 84 rfl (z4) (by kernel_rfl) ?_) | ((with_reducible refine at_store 84 ?_); refine wpList_store_new rfl 84 _ _ rfl (Rr) _ _ _ rfl (by simp) rfl (by rw [HRs.out]; kernel_rfl) (by rw [HRs.out]; rfl) (HRall.out) ?_))
                  all_goals
                    go_roundg (9 - (r + 1))
                    case measure => omega
                    case rel => exact ⟨r + 1, by omega, rfl, by go_num, by rw [HS.out, HMN.out]; congr 1; omega, Ytnpjclodcgejgaa.kept (below_new _ _) hg, below_then hb (below_new _ _)⟩
                · have hls' : sh < lg := by omega
                  have hp1 : 0 ≤ sh * rt := Int.mul_nonneg d2 d3
                  have hp2 : sh * rt ≤ 160000000 * 10000000 := Int.mul_le_mul (by omega) d3' d3 (by omega)
                  have HMN := Lib.hid (show min lg sh = sh by omega)
                  go_wp2_with (first | ((with_reducible refine at_load 84 ?_); refine wpList_load_part rfl 84 _ rfl (w.heap.size) ((r * 4)) rfl _ (R) _ _ 4 (hg) Try.underlying84 rfl (by kernel_rfl) (by have := HSZ.out; omega) (Rr) (HRr.out) ?_) | ((with_reducible refine at_alloc 84 ?_); refine wpList_alloc_named rfl 84 rfl (z4) (by kernel_rfl) ?_) | ((with_reducible refine at_store 84 ?_); refine wpList_store_new rfl 84 _ _ rfl (Rr) _ _ _ rfl (by simp) rfl (by rw [HRs.out]; kernel_rfl) (by rw [HRs.out]; rfl) (HRall.out) ?_))
                  all_goals
                    go_roundg (9 - (r + 1))
                    case measure => omega
                    case rel => exact ⟨r + 1, by omega, rfl, by go_num, by rw [HS.out, HMN.out]; congr 1; omega, Ytnpjclodcgejgaa.kept (below_new _ _) hg, below_then hb (below_new _ _)⟩
              · obtain rfl : r = 9 := by omega
                go_wp2
                go_ret2
                exact ⟨by rw [HM.out.1, HM.out.2]; rfl, hb⟩
end Go.Proofs.Ytnpjclodcgejgaa
