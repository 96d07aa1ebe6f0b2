/- The scan's own known example comes out as it is said; no condition. -/
import Derived.Test.YtodbbcagpfjieaaRefM
import Derived.Great.BuildSlice
namespace Go.Proofs.Ytodbbcagpfjieaa
set_option linter.unusedVariables false
set_option linter.unusedSimpArgs false
open Go.RowKit

def z25s : Array Value := #[.int .u32 0, .int .u8 0, .int .i64 0, .int .i64 0, .int .i64 0, .int .i64 0, .int .i64 0, .int .i64 0, .int .i64 0, .int .i64 0, .int .i64 0, .int .i64 0, .int .i64 0, .int .i64 0, .int .i64 0, .int .i64 0, .int .i64 0, .int .i64 0, .int .i64 0, .int .i64 0, .int .i64 0, .int .i64 0,
    .int .i64 0, .int .u32 0, .int .i64 0]
def k0 : Array Value := #[.int .u32 1, .int .u8 1, .int .i64 1, .int .i64 1, .int .i64 0, .int .i64 9, .int .i64 0, .int .i64 0, .int .i64 0, .int .i64 0, .int .i64 0, .int .i64 0, .int .i64 0, .int .i64 0, .int .i64 0, .int .i64 0, .int .i64 0, .int .i64 0, .int .i64 0, .int .i64 0, .int .i64 0, .int .i64 0,
    .int .i64 30, .int .u32 0, .int .i64 10]
def k1 : Array Value := #[.int .u32 1, .int .u8 1, .int .i64 1, .int .i64 1, .int .i64 0, .int .i64 9, .int .i64 50, .int .i64 (-40), .int .i64 0, .int .i64 0, .int .i64 0, .int .i64 0, .int .i64 0, .int .i64 0, .int .i64 0, .int .i64 0, .int .i64 0, .int .i64 0, .int .i64 0, .int .i64 0, .int .i64 0, .int .i64 0,
    .int .i64 30, .int .u32 0, .int .i64 10]
def k2 : Array Value := #[.int .u32 2, .int .u8 1, .int .i64 1, .int .i64 1, .int .i64 0, .int .i64 9, .int .i64 50, .int .i64 (-40), .int .i64 0, .int .i64 0, .int .i64 0, .int .i64 0, .int .i64 0, .int .i64 0, .int .i64 0, .int .i64 0, .int .i64 0, .int .i64 0, .int .i64 0, .int .i64 0, .int .i64 0, .int .i64 0,
    .int .i64 10, .int .u32 0, .int .i64 10]
def kl0 : Array Value := #[.int .u32 1, .int .u8 1, .int .i64 1, .int .i64 1, .int .i64 0, .int .i64 9, .int .i64 50, .int .i64 (-40), .int .i64 0, .int .i64 0, .int .i64 0, .int .i64 0, .int .i64 0, .int .i64 0, .int .i64 0, .int .i64 0, .int .i64 0, .int .i64 0, .int .i64 0, .int .i64 0, .int .i64 0, .int .i64 0,
    .int .i64 30, .int .u32 0, .int .i64 10, .int .i64 3]
def kl1 : Array Value := #[.int .u32 2, .int .u8 1, .int .i64 1, .int .i64 1, .int .i64 0, .int .i64 9, .int .i64 50, .int .i64 (-40), .int .i64 0, .int .i64 0, .int .i64 0, .int .i64 0, .int .i64 0, .int .i64 0, .int .i64 0, .int .i64 0, .int .i64 0, .int .i64 0, .int .i64 0, .int .i64 0, .int .i64 0, .int .i64 0,
    .int .i64 10, .int .u32 0, .int .i64 10, .int .i64 (-3)]
def kll : Array Value := #[.int .u32 1, .int .u8 1, .int .i64 1, .int .i64 1, .int .i64 0, .int .i64 9, .int .i64 50, .int .i64 (-40), .int .i64 0, .int .i64 0, .int .i64 0, .int .i64 0, .int .i64 0, .int .i64 0, .int .i64 0, .int .i64 0, .int .i64 0, .int .i64 0, .int .i64 0, .int .i64 0, .int .i64 0, .int .i64 0,
    .int .i64 30, .int .u32 0, .int .i64 10, .int .i64 3,
    .int .u32 2, .int .u8 1, .int .i64 1, .int .i64 1, .int .i64 0, .int .i64 9, .int .i64 50, .int .i64 (-40), .int .i64 0, .int .i64 0, .int .i64 0, .int .i64 0, .int .i64 0, .int .i64 0, .int .i64 0, .int .i64 0, .int .i64 0, .int .i64 0, .int .i64 0, .int .i64 0, .int .i64 0, .int .i64 0,
    .int .i64 10, .int .u32 0, .int .i64 10, .int .i64 (-3)]
def kL : Nat → Array Value := fun i => if i = 0 then kl0 else kl1
def ksh : Array Value := #[.int .i64 50, .int .i64 (-40), .int .i64 0, .int .i64 0, .int .i64 0, .int .i64 0, .int .i64 0, .int .i64 0, .int .i64 0, .int .i64 0, .int .i64 0, .int .i64 0, .int .i64 0, .int .i64 0, .int .i64 0, .int .i64 0]

theorem ki64 {A : Array Value} {i : Nat} {n : Int} (h : A[i]? = some (.int .i64 n)) (h1 : -9223372036854775808 ≤ n ∧ n ≤ 9223372036854775807) : IsN A .i64 i := IsN_of h h1
theorem ku32 {A : Array Value} {i : Nat} {n : Int} (h : A[i]? = some (.int .u32 n)) (h1 : 0 ≤ n ∧ n ≤ 4294967295) : IsN A .u32 i := IsN_of h h1
theorem ku8 {A : Array Value} {i : Nat} {n : Int} (h : A[i]? = some (.int .u8 n)) (h1 : 0 ≤ n ∧ n ≤ 255) : IsN A .u8 i := IsN_of h h1
theorem k1_spec : IsSpec k1 := by
  refine ⟨rfl, ku32 (n := 1) rfl (by omega), ku8 (n := 1) rfl (by omega), ?_, ku32 (n := 0) rfl (by omega), ki64 (n := 10) rfl (by omega)⟩
  intro i h1 h2
  have : i = 2 ∨ i = 3 ∨ i = 4 ∨ i = 5 ∨ i = 6 ∨ i = 7 ∨ i = 8 ∨ i = 9 ∨ i = 10 ∨ i = 11 ∨ i = 12 ∨ i = 13 ∨ i = 14 ∨ i = 15 ∨ i = 16 ∨ i = 17 ∨ i = 18 ∨ i = 19 ∨ i = 20 ∨ i = 21 ∨ i = 22 := by omega
  rcases this with rfl | rfl | rfl | rfl | rfl | rfl | rfl | rfl | rfl | rfl | rfl | rfl | rfl | rfl | rfl | rfl | rfl | rfl | rfl | rfl | rfl <;> exact ki64 rfl (by omega)
theorem k2_spec : IsSpec k2 := by
  refine ⟨rfl, ku32 (n := 2) rfl (by omega), ku8 (n := 1) rfl (by omega), ?_, ku32 (n := 0) rfl (by omega), ki64 (n := 10) rfl (by omega)⟩
  intro i h1 h2
  have : i = 2 ∨ i = 3 ∨ i = 4 ∨ i = 5 ∨ i = 6 ∨ i = 7 ∨ i = 8 ∨ i = 9 ∨ i = 10 ∨ i = 11 ∨ i = 12 ∨ i = 13 ∨ i = 14 ∨ i = 15 ∨ i = 16 ∨ i = 17 ∨ i = 18 ∨ i = 19 ∨ i = 20 ∨ i = 21 ∨ i = 22 := by omega
  rcases this with rfl | rfl | rfl | rfl | rfl | rfl | rfl | rfl | rfl | rfl | rfl | rfl | rfl | rfl | rfl | rfl | rfl | rfl | rfl | rfl | rfl <;> exact ki64 rfl (by omega)
theorem kL_leg (i : Nat) : IsLeg (kL i) := by
  unfold kL
  split
  · exact ⟨rfl, by rw [show kl0.extract 0 25 = k1 by kernel_rfl]; exact k1_spec, ki64 (n := 3) rfl (by omega)⟩
  · exact ⟨rfl, by rw [show kl1.extract 0 25 = k2 by kernel_rfl]; exact k2_spec, ki64 (n := -3) rfl (by omega)⟩
theorem ksh_sh : IsSh ksh := by
  refine ⟨rfl, fun i hi => ?_⟩
  have : i = 0 ∨ i = 1 ∨ i = 2 ∨ i = 3 ∨ i = 4 ∨ i = 5 ∨ i = 6 ∨ i = 7 ∨ i = 8 ∨ i = 9 ∨ i = 10 ∨ i = 11 ∨ i = 12 ∨ i = 13 ∨ i = 14 ∨ i = 15 := by omega
  rcases this with rfl | rfl | rfl | rfl | rfl | rfl | rfl | rfl | rfl | rfl | rfl | rfl | rfl | rfl | rfl | rfl <;> exact ki64 rfl (by omega)
theorem known_m : mN kL 2 = 240 ∧ mE kL 2 = 0 := by decide +kernel
theorem known_s : scN ksh (-3) = 150 ∧ scE ksh (-3) = 0 := by decide +kernel

section
variable {P : Program}
/-- A slice literal, its cells behind a name. -/
theorem at_buildSlice (T : TypeId) {ops : Array Oper} {Q : Exit → Act → World → Prop} {rest : List Oper} {a : Act} {w : World} {d : Option Tmp} {n : Nat} {ps : Array (Nat × Operand)} {ty : TypeId} {pos : String} {af : Array Edge} {gd : Option (Nat × Bool)}
    (h : wpList P ops Q (⟨d, .buildSlice T n ps, ty, pos, af, gd⟩ :: rest) a w) : wpList P ops Q (⟨d, .buildSlice T n ps, ty, pos, af, gd⟩ :: rest) a w := h
def sliceCells (P : Program) (e : TypeId) (len : Nat) (ps : List (Nat × Value)) : Option (Array Value) :=
  (P.info? e).bind fun ie => ie.zero.bind fun z => if len * ie.size > 2 ^ 24 ∨ len * ie.size = 0 then none else
    Instr.fill (fun i => some (i * ie.size, ie.size)) ((Array.range (len * ie.size)).map (z.cells[· % z.cells.size]!)) ps
theorem wpList_slice_named {ops : Array Oper} {rest : List Oper} {o : Oper} {a : Act} {w : World} {Q : Exit → Act → World → Prop} (hg : o.guard = none) (t e : TypeId) (len : Nat) (parts : Array (Nat × Operand)) (ho : o.op = .buildSlice t len parts)
    (B : Array Value) (hu : P.underlying t = some (.slice e)) (hf : sliceCells P e len (parts.map fun (i, x) => (i, a.eval x)).toList = some B)
    (h : wpList P ops Q rest (a.put o.dst (.slice (some ⟨w.heap.size, 0, none⟩) len len)) (w.alloc (.cells B e))) : wpList P ops Q (o :: rest) a w := by
  unfold sliceCells at hf
  cases hie : P.info? e with
  | none => simp [hie] at hf
  | some ie =>
    cases hz : ie.zero with
    | none => simp [hie, hz] at hf
    | some z =>
      simp only [hie, hz, Option.bind_some] at hf
      split at hf
      · simp at hf
      · rename_i hn
        exact wpList_buildSlice hg t e len parts ho B ie z hu hie hz (fun h => hn (Or.inl h)) (fun h => hn (Or.inr h)) hf h
end

theorem k_set1 : (∀ x, (k0.setIfInBounds 6 (.int .i64 50)).setIfInBounds 7 x = k1.setIfInBounds 7 x) ∧ k1.setIfInBounds 7 (.int .i64 (-40)) = k1 := ⟨fun _ => rfl, rfl⟩
theorem k_fin : ((k0.setIfInBounds 6 (.int .i64 50)).setIfInBounds 7 (.int .i64 (-40))).extract 0 25 = k1 := by kernel_rfl
theorem k_fin2 : ((k1.setIfInBounds 0 (.int .u32 2)).setIfInBounds 22 (.int .i64 10)).extract 0 25 = k2 := by kernel_rfl
theorem k_fin3 : ((k0.setIfInBounds 6 (.int .i64 50)).setIfInBounds 7 (.int .i64 (-40))).extract 6 22 = ksh := by kernel_rfl

theorem k_legs {w : World} {g : Nat} (h : w.heap[g]? = some (.cells kll 45 (0, 0))) : Legs w (some ⟨g, 0, none⟩) 2 kL := fun i hi => by
  refine ⟨_, 0, kll, 45, _, rfl, h, ?_, ?_⟩
  · have : kll.size = 52 := rfl
    omega
  · have : i = 0 ∨ i = 1 := by omega
    rcases this with rfl | rfl
    · exact (by kernel_rfl : kll.extract 0 26 = kl0)
    · exact (by kernel_rfl : kll.extract 26 52 = kl1)

set_option maxRecDepth 100000 in
set_option maxHeartbeats 1000000 in
theorem known10 (w : World) :
    Calls Try.prog 16 #[] w fun e w' => e = .returned (.bool true) ∧ Below w.heap.size w w' := by
  have s0 : k0.size = 25 := rfl
  have s1 : k0[6]? = some (.int .i64 0) := rfl
  have s2 : ∀ x, (k0.setIfInBounds 6 x)[7]? = some (.int .i64 0) := fun _ => rfl
  have s3 : k1[0]? = some (.int .u32 1) := rfl
  have s4 : ∀ x, (k1.setIfInBounds 0 x)[22]? = some (.int .i64 30) := fun _ => rfl
  have s5 : k1.size = 25 := rfl
  have H0 := Lib.hid s0
  have H1 := Lib.hid s5
  clear s0 s5
  go_enter Try.func16, Try.ntmps16
  go_wp2_with (first | ((with_reducible refine at_alloc 25 ?_); refine wpList_alloc_named rfl 25 rfl (z25s) (by kernel_rfl) ?_) | ((with_reducible refine at_build 25 ?_); refine wpList_build_named rfl 25 _ rfl (k0) (by kernel_rfl) ?_) | ((with_reducible refine at_store 25 ?_); refine wpList_store_new rfl 25 _ _ rfl (k0) _ _ _ rfl (by simp) rfl (by rw [H0.out]; kernel_rfl) (by rw [H0.out]; rfl) (by kernel_rfl) ?_) | ((with_reducible refine at_load 25 ?_); refine wpList_load_part rfl 25 _ rfl (w.heap.size) 0 rfl _ ((k0.setIfInBounds 6 (.int .i64 50)).setIfInBounds 7 (.int .i64 (-40))) _ _ 25 (by repeat (first | exact heap_new (by simp; done) | refine heap_up ?_)) Try.underlying25 rfl (by kernel_rfl) (by simp [H0.out]) (k1) (k_fin) ?_) | ((with_reducible refine at_store 25 ?_); refine wpList_store_new rfl 25 _ _ rfl (k1) _ _ _ rfl (by simp) rfl (by rw [H1.out]; kernel_rfl) (by rw [H1.out]; rfl) (by kernel_rfl) ?_) | ((with_reducible refine at_load 25 ?_); refine wpList_load_part rfl 25 _ rfl (w.heap.size + 1) 0 rfl _ ((k1.setIfInBounds 0 (.int .u32 2)).setIfInBounds 22 (.int .i64 10)) _ _ 25 (by repeat (first | exact heap_new (by simp; done) | refine heap_up ?_)) Try.underlying25 rfl (by kernel_rfl) (by simp [H1.out]) (k2) (k_fin2) ?_) | ((with_reducible refine at_build 45 ?_); refine wpList_build_named rfl 45 #[(0, .tmp 16), (1, .const (.int .i64 3))] rfl kl0 (by kernel_rfl) ?_) | ((with_reducible refine at_build 45 ?_); refine wpList_build_named rfl 45 _ rfl (kl1) (by kernel_rfl) ?_) | ((with_reducible refine at_buildSlice 42 ?_); refine wpList_slice_named rfl 42 45 2 _ rfl kll Try.underlying42 (by kernel_rfl) ?_))
  refine (margin_any (H := Unit) kL _ 2 2 _ kL_leg (k_legs (by repeat (first | exact heap_new (by simp; done) | refine heap_up ?_))) (by omega)).mono ?_
  rintro e w1 ⟨rfl, hb1⟩
  rw [known_m.1, known_m.2]
  have hg1 := kept (g := w.heap.size) (o := Obj.cells ((k0.setIfInBounds 6 (.int .i64 50)).setIfInBounds 7 (.int .i64 (-40))) 25 (0, 0)) hb1 (by repeat (first | exact heap_new (by simp; done) | refine heap_up ?_))
  have hld : 6 + 16 ≤ ((k0.setIfInBounds 6 (.int .i64 50)).setIfInBounds 7 (.int .i64 (-40))).size := by simp [H0.out]
  go_wp2_with (first | ((with_reducible refine at_load 23 ?_); refine wpList_load_part rfl 23 _ rfl (w.heap.size) 6 rfl _ ((k0.setIfInBounds 6 (.int .i64 50)).setIfInBounds 7 (.int .i64 (-40))) _ _ 16 (hg1) Try.underlying23 rfl (by kernel_rfl) (hld) (ksh) (k_fin3) ?_) | (go_at_call 14; (with_reducible refine (scan_any ksh (-3) _ ksh_sh (by unfold F64; omega)).mono ?_); rintro e w2 ⟨rfl, hb2⟩; rw [known_s.1, known_s.2]))
  go_ret
  exact ⟨rfl, below_then (below_then (below_alloc (below_alloc (below_new _ _) _) _) hb1) hb2⟩
end Go.Proofs.Ytodbbcagpfjieaa
