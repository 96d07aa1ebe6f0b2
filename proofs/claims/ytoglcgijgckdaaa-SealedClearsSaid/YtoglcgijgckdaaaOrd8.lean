/- Orders: whether one may be, which price is better, the order of the bids, slices.Clone. Condition: the numbers fit their kinds. -/
import Derived.Test.YtoglcgijgckdaaaFlat
import Derived.Laws.AppendOwn
import Derived.Lib.SliceRun
namespace Go.Proofs.Ytoglcgijgckdaaa
set_option linter.unusedVariables false
set_option linter.unusedSimpArgs false
open Go.RowKit Go.Deep

def inB (n l m : Int) : Bool := decide (l ≤ n ∧ n ≤ m)
theorem inB_iff {n l m : Int} : inB n l m = true ↔ l ≤ n ∧ n ≤ m := by simp [inB]
structure IsOrd (A : Array Value) : Prop where
  size : A.size = 5
  n : IsN A .u64 0
  a : IsN A .u32 1
  b : IsB A 2
  p : IsN A .i64 3
  l : IsN A .i64 4
theorem IsOrd.all {A : Array Value} (h : IsOrd A) : A.all (·.oneCell') = true := all_one fun i v hv => by
  have hi : i < 5 := by have := (Array.getElem?_eq_some_iff.1 hv).1; have := h.size; omega
  have : i = 0 ∨ i = 1 ∨ i = 2 ∨ i = 3 ∨ i = 4 := by omega
  rcases this with rfl | rfl | rfl | rfl | rfl
  · exact h.n.one hv
  · exact h.a.one hv
  · exact h.b.one hv
  · exact h.p.one hv
  · exact h.l.one hv
def okO (A : Array Value) : Bool := !decide (N A 0 = 0) && !decide (N A 1 = 0) && inB (N A 3) 1 10000000 && inB (N A 4) 1 1000000
theorem okO_iff {A : Array Value} : okO A = true ↔ N A 0 ≠ 0 ∧ N A 1 ≠ 0 ∧ (1 ≤ N A 3 ∧ N A 3 ≤ 10000000) ∧ (1 ≤ N A 4 ∧ N A 4 ≤ 1000000) := by
  unfold okO
  rw [Bool.and_eq_true, Bool.and_eq_true, Bool.and_eq_true, inB_iff, inB_iff]
  simp [and_assoc]
theorem inB_no' {x a b : Int} (h : ¬ (a ≤ x ∧ x ≤ b)) : inB x a b = false := by
  cases hb : inB x a b
  · rfl
  · exact absurd (inB_iff.1 hb) h
set_option maxHeartbeats 1000000 in
theorem omay_any (A : Array Value) (w : World) (h : IsOrd A) :
    Calls Try.prog 18 #[.agg A] w fun e w' => e = .returned (.bool (okO A)) ∧ Below w.heap.size w w' := by
  have hsz := h.size
  have a0 : A[0]? = some (.int .u64 (N A 0)) := h.n.1
  have b0 : 0 ≤ N A 0 := h.n.2.1
  have b1 : 0 ≤ N A 1 := h.a.2.1
  have a1 : A[1]? = some (.int .u32 (N A 1)) := h.a.1
  have a3 : A[3]? = some (.int .i64 (N A 3)) := h.p.1
  have a4 : A[4]? = some (.int .i64 (N A 4)) := h.l.1
  have HF := Lib.hid (show okO A = (!decide (N A 0 = 0) && !decide (N A 1 = 0) && inB (N A 3) 1 10000000 && inB (N A 4) 1 1000000) from rfl)
  have Hsz := Lib.hid hsz
  clear hsz h
  generalize okO A = ok at *
  generalize N A 0 = x0 at *
  generalize N A 1 = x1 at *
  generalize N A 3 = x3 at *
  generalize N A 4 = x4 at *
  by_cases q0 : x0 = 0
  · have q0' : (x0 != 0) = false := by simp [q0]
    have HX := Lib.hid (show ok = false by rw [HF.out]; simp [q0])
    go_enter Try.func18, Try.ntmps18
    go_wp2
    go_ret
    exact ⟨(by rw [HX.out]; first | rfl | (simp [*]; done) | (simp [*]; omega)), below_new _ _⟩
  · have q0' : (x0 != 0) = true := by simp [q0]
    by_cases q1 : x1 = 0
    · have q1' : (x1 != 0) = false := by simp [q1]
      have HX := Lib.hid (show ok = false by rw [HF.out]; simp [q1])
      go_enter Try.func18, Try.ntmps18
      go_wp2
      go_ret
      exact ⟨(by rw [HX.out]; first | rfl | (simp [*]; done) | (simp [*]; omega)), below_new _ _⟩
    · have q1' : (x1 != 0) = true := by simp [q1]
      by_cases p1 : x3 < 1
      · have HX := Lib.hid (show ok = false by rw [HF.out, inB_no' (by omega)]; simp)
        go_enter Try.func18, Try.ntmps18
        go_wp2
        go_ret
        exact ⟨(by rw [HX.out]; first | rfl | (simp [*]; done) | (simp [*]; omega)), below_new _ _⟩
      · by_cases p2 : 10000000 < x3
        · have HX := Lib.hid (show ok = false by rw [HF.out, inB_no' (by omega)]; simp)
          go_enter Try.func18, Try.ntmps18
          go_wp2
          go_ret
          exact ⟨(by rw [HX.out]; first | rfl | (simp [*]; done) | (simp [*]; omega)), below_new _ _⟩
        · by_cases l1 : x4 < 1
          · have HX := Lib.hid (show ok = false by rw [HF.out, show inB x4 1 1000000 = false from inB_no' (by omega)]; simp)
            go_enter Try.func18, Try.ntmps18
            go_wp2
            go_ret
            exact ⟨(by rw [HX.out]; first | rfl | (simp [*]; done) | (simp [*]; omega)), below_new _ _⟩
          · by_cases l2 : 1000000 < x4
            · have HX := Lib.hid (show ok = false by rw [HF.out, show inB x4 1 1000000 = false from inB_no' (by omega)]; simp)
              go_enter Try.func18, Try.ntmps18
              go_wp2
              go_ret
              exact ⟨(by rw [HX.out]; first | rfl | (simp [*]; done) | (simp [*]; omega)), below_new _ _⟩
            · have HX := Lib.hid (show ok = true by rw [HF.out, inB_iff.2 (show 1 ≤ x3 ∧ x3 ≤ 10000000 by omega), inB_iff.2 (show 1 ≤ x4 ∧ x4 ≤ 1000000 by omega)]; simp [q0, q1])
              go_enter Try.func18, Try.ntmps18
              go_wp2
              go_ret
              exact ⟨(by rw [HX.out]; first | rfl | (simp [*]; done) | (simp [*]; omega)), below_new _ _⟩

set_option maxHeartbeats 1000000 in
theorem romay_any (A : Array Value) (w : World) (h : IsOrd A) :
    Calls Try.prog 15 #[.agg A] w fun e w' => e = .returned (.bool (okO A)) ∧ Below w.heap.size w w' := by
  have hsz := h.size
  have a0 : A[0]? = some (.int .u64 (N A 0)) := h.n.1
  have b0 : 0 ≤ N A 0 := h.n.2.1
  have b1 : 0 ≤ N A 1 := h.a.2.1
  have a1 : A[1]? = some (.int .u32 (N A 1)) := h.a.1
  have a3 : A[3]? = some (.int .i64 (N A 3)) := h.p.1
  have a4 : A[4]? = some (.int .i64 (N A 4)) := h.l.1
  have HF := Lib.hid (show okO A = (!decide (N A 0 = 0) && !decide (N A 1 = 0) && inB (N A 3) 1 10000000 && inB (N A 4) 1 1000000) from rfl)
  have Hsz := Lib.hid hsz
  clear hsz h
  generalize okO A = ok at *
  generalize N A 0 = x0 at *
  generalize N A 1 = x1 at *
  generalize N A 3 = x3 at *
  generalize N A 4 = x4 at *
  by_cases q0 : x0 = 0
  · have q0' : (x0 != 0) = false := by simp [q0]
    have HX := Lib.hid (show ok = false by rw [HF.out]; simp [q0])
    go_enter Try.func15, Try.ntmps15
    go_wp2
    go_ret
    exact ⟨(by rw [HX.out]; first | rfl | (simp [*]; done) | (simp [*]; omega)), below_new _ _⟩
  · have q0' : (x0 != 0) = true := by simp [q0]
    by_cases q1 : x1 = 0
    · have q1' : (x1 != 0) = false := by simp [q1]
      have HX := Lib.hid (show ok = false by rw [HF.out]; simp [q1])
      go_enter Try.func15, Try.ntmps15
      go_wp2
      go_ret
      exact ⟨(by rw [HX.out]; first | rfl | (simp [*]; done) | (simp [*]; omega)), below_new _ _⟩
    · have q1' : (x1 != 0) = true := by simp [q1]
      by_cases p1 : x3 < 1
      · have HX := Lib.hid (show ok = false by rw [HF.out, inB_no' (by omega)]; simp)
        go_enter Try.func15, Try.ntmps15
        go_wp2
        go_ret
        exact ⟨(by rw [HX.out]; first | rfl | (simp [*]; done) | (simp [*]; omega)), below_new _ _⟩
      · by_cases p2 : 10000000 < x3
        · have HX := Lib.hid (show ok = false by rw [HF.out, inB_no' (by omega)]; simp)
          go_enter Try.func15, Try.ntmps15
          go_wp2
          go_ret
          exact ⟨(by rw [HX.out]; first | rfl | (simp [*]; done) | (simp [*]; omega)), below_new _ _⟩
        · by_cases l1 : x4 < 1
          · have HX := Lib.hid (show ok = false by rw [HF.out, show inB x4 1 1000000 = false from inB_no' (by omega)]; simp)
            go_enter Try.func15, Try.ntmps15
            go_wp2
            go_ret
            exact ⟨(by rw [HX.out]; first | rfl | (simp [*]; done) | (simp [*]; omega)), below_new _ _⟩
          · by_cases l2 : 1000000 < x4
            · have HX := Lib.hid (show ok = false by rw [HF.out, show inB x4 1 1000000 = false from inB_no' (by omega)]; simp)
              go_enter Try.func15, Try.ntmps15
              go_wp2
              go_ret
              exact ⟨(by rw [HX.out]; first | rfl | (simp [*]; done) | (simp [*]; omega)), below_new _ _⟩
            · have HX := Lib.hid (show ok = true by rw [HF.out, inB_iff.2 (show 1 ≤ x3 ∧ x3 ≤ 10000000 by omega), inB_iff.2 (show 1 ≤ x4 ∧ x4 ≤ 1000000 by omega)]; simp [q0, q1])
              go_enter Try.func15, Try.ntmps15
              go_wp2
              go_ret
              exact ⟨(by rw [HX.out]; first | rfl | (simp [*]; done) | (simp [*]; omega)), below_new _ _⟩

theorem info_ord : ∃ i z, Try.prog.info? 31 = some i ∧ i.zero = some z ∧ i.size = 5 ∧ i.bytes ≤ 512 ∧ z.cells.size = 5 := by
  have h : (Try.prog.info? 31).map (fun i => (i.size, decide (i.bytes ≤ 512), i.zero.map (·.cells.size))) = some (5, true, some 5) := by kernel_rfl
  cases hi : Try.prog.info? 31 with
  | none => simp [hi] at h
  | some i =>
    simp [hi] at h
    obtain ⟨h1, h2, z, h3, h4⟩ := h
    exact ⟨i, z, rfl, h3, h1, h2, h4⟩
theorem at_append31 (T : TypeId) {P : Program} {ops : Array Oper} {Q : Exit → Act → World → Prop} {rest : List Oper} {a : Act} {w : World} {d : Option Tmp} {x y : Operand} {ty : TypeId} {pos : String} {af : Array Edge} {gd : Option (Nat × Bool)}
    (h : wpList P ops Q (⟨d, .call { callee := .builtin .append, args := #[x, y], argTypes := #[T, T] }, ty, pos, af, gd⟩ :: rest) a w) : wpList P ops Q (⟨d, .call { callee := .builtin .append, args := #[x, y], argTypes := #[T, T] }, ty, pos, af, gd⟩ :: rest) a w := h
theorem own_empty_t (W : World) (e : TypeId) (c : Nat) : (W.alloc (.cells #[] e)).ownsRow W.heap.size e c (.slice (some ⟨W.heap.size, 0, none⟩) 0 0) 0 [] :=
  ⟨by simp, .inr ⟨W.heap.size, 0, #[], rfl, Nat.le_refl _, heap_alloc_new _ _, Nat.le_refl _, by unfold maxLen; omega, by simp, by simp⟩⟩
theorem rows_ty {w : World} {t : TypeId} {c n : Nat} {a : Option Addr} {L : Nat → Array Value} (h : RowsT w t c a n L) : ∀ i, i < n → ∃ g off A t' fr, a = some (⟨g, off, none⟩ : Addr) ∧ w.heap[g]? = some (.cells A t' fr) ∧ off + i * c + c ≤ A.size ∧ A.extract (off + i * c) (off + i * c + c) = L i := fun i hi => by
  obtain ⟨g, off, A, fr, h1, h2, h3, h4⟩ := h i hi
  exact ⟨g, off, A, t, fr, h1, h2, h3, h4⟩
set_option maxHeartbeats 1000000 in
theorem sclone_any (ra : Option Addr) (rc k : Nat) (L : Nat → Array Value) (w : World) (hL : ∀ i, IsOrd (L i)) (hR : RowsT w 31 5 ra k L) (hk : k ≤ 1000) (hz : ra = none → k = 0 ∧ rc = 0) :
    Calls Try.prog 12 #[.slice ra k rc] w fun e w' => ∃ v', e = .returned v' ∧ w'.ownsRow w.heap.size 31 5 v' k (flat L k) ∧ Below w.heap.size w w' := by
  have q22 : ∀ (w : World) (a : Option Addr) (n c n' c' : Nat), (binOp .eql 22 (.slice a n c) (.slice none n' c')).run Try.prog w = .ok (.bool a.isNone) w := fun w a n c n' c' => Lib.run_eql_slice_nil w _ _ a n c n' c' Try.underlying22
  cases ra with
  | none =>
    obtain ⟨rfl, rfl⟩ := hz rfl
    go_enter Try.func12, Try.ntmps12
    go_wp2
    go_ret
    exact ⟨_, rfl, World.ownsRow_nil _ _ _ _, Below.refl _ _⟩
  | some ad =>
    have HR := Lib.hid hR
    have HL := Lib.hid hL
    clear hR hL hz
    obtain ⟨i, z, h1, h2, h3, h4, h5⟩ := info_ord
    have HI := Lib.hid (And.intro h1 (And.intro h2 (And.intro h3 (And.intro h4 h5))))
    clear h1 h2 h3 h4 h5
    have hbn := below_new w (Obj.cells #[] 31)
    go_enter Try.func12, Try.ntmps12
    go_wp2_with (((with_reducible refine at_append31 22 ?_); refine wpList_append_own _ rfl _ _ _ rfl w.heap.size _ i z 5 i.bytes Try.underlying22 HI.out.1 HI.out.2.1 HI.out.2.2.1 rfl HI.out.2.2.2.2 (by omega) _ 0 [] rfl (own_empty_t w _ _) ad k rc (flat L k) rfl (flatc_len (fun i => (HL.out i).size) k) (rows_at (by omega) (fun i => (HL.out i).size) (rows_ty (rowsT_kept HR.out hbn))) (flatc_one (fun i => (HL.out i).all) k) (by unfold maxLen; omega) (by have := HI.out.2.2.2.1; have := Nat.mul_le_mul (show 0 + k ≤ 1000 by omega) this; omega) (by simp) ?_; intro v' w' h6 h7 _))
    rw [Nat.zero_add, List.nil_append] at h6
    go_ret
    exact ⟨_, rfl, h6, hbn.grown h7 (by simp) (fun j e => by have e : w.heap.size = j := Option.some.inj e; omega)⟩
/-- is a price better? -/
def betB (buy : Bool) (a b : Int) : Bool := if buy then decide (b < a) else decide (a < b)
theorem better_any (buy : Bool) (a b : Int) (w : World) :
    Calls Try.prog 17 #[.bool buy, .int .i64 a, .int .i64 b] w fun e w' => e = .returned (.bool (betB buy a b)) ∧ w = w' := by
  have HB := Lib.hid (show betB buy a b = if buy then decide (b < a) else decide (a < b) from rfl)
  generalize betB buy a b = r at *
  cases buy
  · by_cases h : a < b
    · go_enter Try.func17, Try.ntmps17
      go_wp2
      go_ret
      exact ⟨by rw [HB.out]; simp [h], rfl⟩
    · go_enter Try.func17, Try.ntmps17
      go_wp2
      go_ret
      exact ⟨by rw [HB.out]; simp [h], rfl⟩
  · by_cases h : b < a
    · go_enter Try.func17, Try.ntmps17
      go_wp2
      go_ret
      exact ⟨by rw [HB.out]; simp [h], rfl⟩
    · go_enter Try.func17, Try.ntmps17
      go_wp2
      go_ret
      exact ⟨by rw [HB.out]; simp [h], rfl⟩
/-- what the order of the bids answers, and by which key it is -/
def cfS (sells : Bool) (L : Nat → Array Value) (x y : Nat) : Int := if sells then N (L y) 3 - N (L x) 3 else N (L x) 3 - N (L y) 3
def keyS (sells : Bool) (L : Nat → Array Value) (x : Nat) : Int := if sells then -(N (L x) 3) else N (L x) 3
theorem cfS_key (sells : Bool) (L : Nat → Array Value) (x y : Nat) : cfS sells L x y < 0 ↔ keyS sells L x < keyS sells L y := by
  unfold cfS keyS; cases sells <;> simp <;> omega
theorem cmpS_any (sells : Bool) (A B : Array Value) (gs : Nat) (w : World) (hA : IsOrd A) (hB : IsOrd B) (h1 : 1 ≤ N A 3 ∧ N A 3 ≤ 10000000) (h2 : 1 ≤ N B 3 ∧ N B 3 ≤ 10000000) (hs : w.heap[gs]? = some (.cells #[.bool sells] 4 (0, 0))) :
    Calls Try.prog 14 #[.agg A, .agg B, .pointer (some ⟨gs, 0, none⟩)] w fun e w' => e = .returned (.int .i64 (if sells then N B 3 - N A 3 else N A 3 - N B 3)) ∧ Below w.heap.size w w' := by
  have hb := below_alloc (below_new w (Obj.cells A 31)) (Obj.cells B 31)
  have a3 : A[3]? = some (.int .i64 (N A 3)) := hA.p.1
  have b3 : B[3]? = some (.int .i64 (N B 3)) := hB.p.1
  have cs := cellF (heap_up (o := Obj.cells B 31) (heap_up (o := Obj.cells A 31) hs))
  clear hA hB hs
  generalize N A 3 = x at *
  generalize N B 3 = y at *
  have w1 : IntKind.i64.wrap (y - x) = y - x := by rw [IntKind.wrap_i64]; omega
  have w2 : IntKind.i64.wrap (x - y) = x - y := by rw [IntKind.wrap_i64]; omega
  cases sells
  · go_enter Try.func14, Try.ntmps14
    go_wp2
    go_ret
    exact ⟨rfl, hb⟩
  · go_enter Try.func14, Try.ntmps14
    go_wp2
    go_ret
    exact ⟨rfl, hb⟩
end Go.Proofs.Ytoglcgijgckdaaa
