/- The statement FixnumBack returns true, whatever comes in. No condition but that the numbers fit their kinds. -/
import Derived.Test.YtanfhjfpdgjphaaMd
import Derived.Test.YtanfhjfpdgjphaaSumI
import Derived.Great.BuildSlice
namespace Go.Proofs.Ytanfhjfpdgjphaa
set_option linter.unusedVariables false
set_option linter.unusedSimpArgs false
open Go.RowKit

theorem at_buildSlice (T : TypeId) {P : Program} {ops : Array Oper} {Q : Exit → Act → World → Prop} {rest : List Oper} {a : Act} {w : World} {d : Option Tmp} {n : Nat} {ps : Array (Nat × Operand)} {ty : TypeId} {pos : String} {af : Array Edge} {gd : Option (Nat × Bool)}
    (h : wpList P ops Q (⟨d, .buildSlice T n ps, ty, pos, af, gd⟩ :: rest) a w) : wpList P ops Q (⟨d, .buildSlice T n ps, ty, pos, af, gd⟩ :: rest) a w := h
def sliceCells (P : Program) (e : TypeId) (len : Nat) (ps : List (Nat × Value)) : Option (Array Value) :=
  (P.info? e).bind fun ie => ie.zero.bind fun z => if len * ie.size > 2 ^ 24 ∨ len * ie.size = 0 then none else
    Instr.fill (fun i => some (i * ie.size, ie.size)) ((Array.range (len * ie.size)).map (z.cells[· % z.cells.size]!)) ps
theorem wpList_slice_named {P : Program} {ops : Array Oper} {rest : List Oper} {o : Oper} {a : Act} {w : World} {Q : Exit → Act → World → Prop} (hg : o.guard = none) (t e : TypeId) (len : Nat) (parts : Array (Nat × Operand)) (ho : o.op = .buildSlice t len parts)
    (B : Array Value) (hu : P.underlying t = some (.slice e)) (hf : sliceCells P e len (parts.map fun (i, x) => (i, a.eval x)).toList = some B)
    (h : wpList P ops Q rest (a.put o.dst (.slice (some ⟨w.heap.size, 0, none⟩) len len)) (w.alloc (.cells B e))) : wpList P ops Q (o :: rest) a w := by
  unfold sliceCells at hf
  cases hie : P.info? e with
  | none => simp [hie] at hf
  | some ie =>
    cases hz : ie.zero with
    | none => simp [hie, hz] at hf
    | some z =>
      simp only [hie, hz, Option.bind_some] at hf
      split at hf
      · simp at hf
      · rename_i hn
        exact wpList_buildSlice hg t e len parts ho B ie z hu hie hz (fun h => hn (Or.inl h)) (fun h => hn (Or.inr h)) hf h
def two (a b : Int) : Nat → Int := fun i => if i = 0 then b else a
theorem two_ints {w : World} {g : Nat} {a b : Int} {t : TypeId} {fr : Nat × Nat} (h : w.heap[g]? = some (.cells #[.int .i64 b, .int .i64 a] t fr)) : Ints w (some ⟨g, 0, none⟩) 2 (two a b) := fun i hi => by
  refine ⟨g, 0, _, t, fr, rfl, h, ?_⟩
  have : i = 0 ∨ i = 1 := by omega
  rcases this with rfl | rfl <;> rfl
theorem two_sum (a b : Int) : sumZ (two a b) 2 = a + b := by simp [sumZ, two]; omega

set_option maxRecDepth 100000 in
set_option maxHeartbeats 1000000 in
theorem back_walk (a b : Int) (W : World) (ha : F64 a) (hb : F64 b) :
    Calls Try.prog 9 #[.int .i64 a, .int .i64 b] W fun e W' => e = .returned (.bool true) ∧ Below W.heap.size W W' := by
  have c1 := fun w => fadd_any a b w ha hb
  have cm : b ≠ 0 → ∀ w, Calls Try.prog 14 #[.int .i64 a, .int .i64 b, .int .i64 b] w fun e w' => e = .returned (.tuple #[.int .i64 a, .int .i64 0]) ∧ Below w.heap.size w w' := fun h0 w => by
    have := fmd_any a b b w ha hb hb h0
    rw [mv_back h0, (fit_yes (v := a) ha).2.1, (fit_yes (v := a) ha).2.2] at this
    exact this
  have CM := Lib.hid cm
  clear cm
  by_cases hf : -9223372036854775808 ≤ a + b ∧ a + b ≤ 9223372036854775807
  · rw [(fit_yes hf).2.1, (fit_yes hf).2.2] at c1
    have c2 := fun w => fsub_any (a + b) b w hf hb
    rw [show a + b - b = a by omega, (fit_yes (v := a) ha).2.1, (fit_yes (v := a) ha).2.2] at c2
    have c3 : ∀ w g t fr, w.heap[g]? = some (Obj.cells #[.int .i64 b, .int .i64 a] t fr) → Calls Try.prog 26 #[.slice (some ⟨g, 0, none⟩) 2 2] w fun e w' => e = .returned (.tuple #[.int .i64 (a + b), .int .i64 0]) ∧ w = w' := fun w g t fr h => by
      have := fsum_any (some ⟨g, 0, none⟩) 2 2 (two a b) w (fun i => by unfold two; split <;> assumption) (two_ints h) (by omega)
      rw [two_sum, (fit_yes hf).2.1, (fit_yes hf).2.2] at this
      exact this
    have C3 := Lib.hid c3
    clear c3 hf
    generalize hs : a + b = s at *
    clear hs
    by_cases h0 : b = 0
    · subst h0
      clear CM
      go_enter Try.func9, Try.ntmps9
      go_wp2_with (first | (go_at_call 20; (with_reducible refine (c1 _).mono ?_); rintro e w1 ⟨rfl, rfl⟩) | (go_at_call 21; (with_reducible refine (c2 _).mono ?_); rintro e w2 ⟨rfl, rfl⟩) | ((with_reducible refine at_buildSlice 30 ?_); refine wpList_slice_named rfl 30 2 2 _ rfl #[.int .i64 0, .int .i64 a] Try.underlying30 (by kernel_rfl) ?_) | (go_at_call 26; (with_reducible refine (C3.out _ _ _ _ (heap_alloc_new _ _)).mono ?_); rintro e w3 ⟨rfl, rfl⟩) | (go_at_call 17; (with_reducible refine (known01 _).mono ?_); rintro e w5 ⟨rfl, hb5⟩))
      go_ret
      exact ⟨rfl, below_then (below_new _ _) hb5⟩
    · have h0' : (b == 0) = false := by simpa using h0
      have cm := CM.out h0
      clear CM
      go_enter Try.func9, Try.ntmps9
      go_wp2_with (first | (go_at_call 20; (with_reducible refine (c1 _).mono ?_); rintro e w1 ⟨rfl, rfl⟩) | (go_at_call 21; (with_reducible refine (c2 _).mono ?_); rintro e w2 ⟨rfl, rfl⟩) | ((with_reducible refine at_buildSlice 30 ?_); refine wpList_slice_named rfl 30 2 2 _ rfl #[.int .i64 b, .int .i64 a] Try.underlying30 (by kernel_rfl) ?_) | (go_at_call 26; (with_reducible refine (C3.out _ _ _ _ (heap_alloc_new _ _)).mono ?_); rintro e w3 ⟨rfl, rfl⟩) | (go_at_call 14; (with_reducible refine (cm _).mono ?_); rintro e w4 ⟨rfl, hb4⟩) | (go_at_call 17; (with_reducible refine (known01 _).mono ?_); rintro e w5 ⟨rfl, hb5⟩))
      go_ret
      exact ⟨rfl, below_then (below_then (below_new _ _) hb4) hb5⟩
  · rw [(fit_no hf).2.1, (fit_no hf).2.2] at c1
    clear hf
    by_cases h0 : b = 0
    · subst h0
      clear CM
      go_enter Try.func9, Try.ntmps9
      go_wp2_with (first | (go_at_call 20; (with_reducible refine (c1 _).mono ?_); rintro e w1 ⟨rfl, rfl⟩) | (go_at_call 17; (with_reducible refine (known01 _).mono ?_); rintro e w5 ⟨rfl, hb5⟩))
      go_ret
      exact ⟨rfl, hb5⟩
    · have h0' : (b == 0) = false := by simpa using h0
      have cm := CM.out h0
      clear CM
      go_enter Try.func9, Try.ntmps9
      go_wp2_with (first | (go_at_call 20; (with_reducible refine (c1 _).mono ?_); rintro e w1 ⟨rfl, rfl⟩) | (go_at_call 14; (with_reducible refine (cm _).mono ?_); rintro e w4 ⟨rfl, hb4⟩) | (go_at_call 17; (with_reducible refine (known01 _).mono ?_); rintro e w5 ⟨rfl, hb5⟩))
      go_ret
      exact ⟨rfl, below_then hb4 hb5⟩
end Go.Proofs.Ytanfhjfpdgjphaa
