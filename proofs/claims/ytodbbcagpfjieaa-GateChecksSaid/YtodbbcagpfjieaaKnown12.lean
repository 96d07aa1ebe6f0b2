/- The gate's own known example comes out as it is said; no condition. -/
import Derived.Test.YtodbbcagpfjieaaGate
namespace Go.Proofs.Ytodbbcagpfjieaa
open Go.RowKit

def z32 : Array Value := #[.int .u32 0, .int .u8 0, .int .i64 0, .int .i64 0, .int .i64 0, .int .i64 0, .int .i64 0, .int .i64 0, .int .i64 0, .int .i64 0, .int .i64 0, .int .i64 0, .int .i64 0, .int .i64 0, .int .i64 0, .int .i64 0, .int .i64 0, .int .i64 0, .int .i64 0, .int .i64 0, .int .i64 0, .int .i64 0,
    .int .i64 0, .int .u32 0, .int .i64 0, .int .u8 0, .int .i64 0, .int .u32 0, .int .i64 0, .bool false, .bool false, .int .i64 0, .int .i64 0, .int .i64 0, .bool false, .int .i64 0, .int .i64 0]
def z25 : Array Value := #[.int .u32 0, .int .u8 0, .int .i64 0, .int .i64 0, .int .i64 0, .int .i64 0, .int .i64 0, .int .i64 0, .int .i64 0, .int .i64 0, .int .i64 0, .int .i64 0, .int .i64 0, .int .i64 0, .int .i64 0, .int .i64 0, .int .i64 0, .int .i64 0, .int .i64 0, .int .i64 0, .int .i64 0, .int .i64 0,
    .int .i64 0, .int .u32 0, .int .i64 0]
def sm0 : Array Value := #[.int .u32 1, .int .u8 1, .int .i64 5, .int .i64 10, .int .i64 100, .int .i64 50, .int .i64 0, .int .i64 0, .int .i64 0, .int .i64 0, .int .i64 0, .int .i64 0, .int .i64 0, .int .i64 0, .int .i64 0, .int .i64 0, .int .i64 0, .int .i64 0, .int .i64 0, .int .i64 0, .int .i64 0, .int .i64 0,
    .int .i64 0, .int .u32 0, .int .i64 1000]
def sm1 : Array Value := #[.int .u32 1, .int .u8 1, .int .i64 5, .int .i64 10, .int .i64 100, .int .i64 50, .int .i64 50, .int .i64 (-50), .int .i64 0, .int .i64 0, .int .i64 0, .int .i64 0, .int .i64 0, .int .i64 0, .int .i64 0, .int .i64 0, .int .i64 0, .int .i64 0, .int .i64 0, .int .i64 0, .int .i64 0, .int .i64 0,
    .int .i64 0, .int .u32 0, .int .i64 1000]
def sm2 : Array Value := #[.int .u32 1, .int .u8 1, .int .i64 5, .int .i64 10, .int .i64 100, .int .i64 50, .int .i64 50, .int .i64 (-50), .int .i64 0, .int .i64 0, .int .i64 0, .int .i64 0, .int .i64 0, .int .i64 0, .int .i64 0, .int .i64 0, .int .i64 0, .int .i64 0, .int .i64 0, .int .i64 0, .int .i64 0, .int .i64 0,
    .int .i64 0, .int .u32 0, .int .i64 1000, .int .u8 1, .int .i64 1000]
def sm3 : Array Value := #[.int .u32 1, .int .i64 0, .bool false, .bool false]
def smallA (buy : Bool) (price qty : Int) : Array Value :=
  #[.int .u32 1, .int .u8 1, .int .i64 5, .int .i64 10, .int .i64 100, .int .i64 50, .int .i64 50, .int .i64 (-50), .int .i64 0, .int .i64 0, .int .i64 0, .int .i64 0, .int .i64 0, .int .i64 0, .int .i64 0, .int .i64 0, .int .i64 0, .int .i64 0, .int .i64 0, .int .i64 0, .int .i64 0, .int .i64 0,
    .int .i64 0, .int .u32 0, .int .i64 1000, .int .u8 1, .int .i64 1000, .int .u32 1, .int .i64 0, .bool false, .bool false, .int .i64 20, .int .i64 10, .int .i64 0, .bool buy, .int .i64 price, .int .i64 qty]

theorem sm0_cell : (∀ x, (sm0.setIfInBounds 6 (.int .i64 50)).setIfInBounds 7 x = sm1.setIfInBounds 7 x) ∧ sm1.setIfInBounds 7 (.int .i64 (-50)) = sm1 := ⟨fun _ => rfl, rfl⟩
theorem sm_fin : ((sm0.setIfInBounds 6 (.int .i64 50)).setIfInBounds 7 (.int .i64 (-50))).extract 0 25 = sm1 := by kernel_rfl

theorem results_cell_any {fn : Func} {P : Program} {p : Tmp} {ty : TypeId} (h : fn.results = #[.cell p ty]) (tmps : Array Value) (w : World) (g : Nat) (t : TypeId) (cs : Array Value) (d : TypeDesc)
    (hp : tmps.getD p undef = .pointer (some ⟨g, 0, none⟩)) (hg : w.heap[g]? = some (.cells cs t (0, 0)))
    (hu : P.underlying ty = some d) (hd : (match d with | .struct _ | .array _ _ => true | _ => false) = true) (hi : (P.info? ty).map (·.size) = some cs.size) :
    (results fn tmps).run P w = .ok (.agg cs) w := results_cell_row h tmps w g t cs (0, 0) d hp hg hu hd hi

set_option maxHeartbeats 1000000 in
theorem small_any (buy : Bool) (price qty : Int) (w : World) :
    Calls Try.prog 27 #[.bool buy, .int .i64 price, .int .i64 qty] w fun e w' => e = .returned (.agg (smallA buy price qty)) ∧ Below w.heap.size w w' := by
  have s0 : sm0.size = 25 := rfl
  have s1 : sm0[6]? = some (.int .i64 0) := rfl
  have s2 : ∀ x, (sm0.setIfInBounds 6 x)[7]? = some (.int .i64 0) := fun _ => rfl
  have H0 := Lib.hid s0
  clear s0
  go_enter Try.func27, Try.ntmps27
  go_wp2_with (first | ((with_reducible refine at_alloc 32 ?_); refine wpList_alloc_named rfl 32 rfl (z32) (by kernel_rfl) ?_) | ((with_reducible refine at_alloc 25 ?_); refine wpList_alloc_named rfl 25 rfl (z25) (by kernel_rfl) ?_) | ((with_reducible refine at_build 25 ?_); refine wpList_build_named rfl 25 _ rfl (sm0) (by kernel_rfl) ?_) | ((with_reducible refine at_build 28 ?_); refine wpList_build_named rfl 28 _ rfl (sm2) (by kernel_rfl) ?_) | ((with_reducible refine at_build 30 ?_); refine wpList_build_named rfl 30 _ rfl (sm3) (by kernel_rfl) ?_) | ((with_reducible refine at_build 32 ?_); refine wpList_build_named rfl 32 _ rfl (smallA buy price qty) (by kernel_rfl) ?_) | ((with_reducible refine at_store 25 ?_); refine wpList_store_new rfl 25 _ _ rfl (sm0) _ _ _ rfl (by simp) rfl (by rw [H0.out]; kernel_rfl) (by rw [H0.out]; rfl) (by kernel_rfl) ?_) | ((with_reducible refine at_load 25 ?_); refine wpList_load_part rfl 25 _ rfl (w.heap.size + 1) 0 rfl _ ((sm0.setIfInBounds 6 (.int .i64 50)).setIfInBounds 7 (.int .i64 (-50))) (0, 0) _ 25 (heap_alloc2_new _ _ _) Try.underlying25 rfl (by kernel_rfl) (by simp [H0.out]) (sm1) (sm_fin) ?_) | ((with_reducible refine at_store 32 ?_); refine wpList_store_over rfl 32 _ _ rfl (w.heap.size) (smallA buy price qty) rfl rfl _ _ (heap_alloc2_old _ _ _) (by kernel_rfl) (rfl) (by kernel_rfl) ?_; intro w1 hg1 hs1 ho1 hb1))
  have hB : Below w.heap.size w w1 := Below.trans (below_alloc (below_new _ _) _) (hb1 _ (Nat.le_refl _))
  exact bodyPost_ret (results_cell_any rfl _ _ _ _ _ _ rfl hg1 Try.underlying32 rfl (by kernel_rfl)) rfl ⟨rfl, hB⟩

theorem mk_i64 {A : Array Value} {i : Nat} {n : Int} (h : A[i]? = some (.int .i64 n)) (h1 : -9223372036854775808 ≤ n ∧ n ≤ 9223372036854775807) : IsN A .i64 i := IsN_of h h1
theorem mk_u32 {A : Array Value} {i : Nat} {n : Int} (h : A[i]? = some (.int .u32 n)) (h1 : 0 ≤ n ∧ n ≤ 4294967295) : IsN A .u32 i := IsN_of h h1
theorem mk_u8 {A : Array Value} {i : Nat} {n : Int} (h : A[i]? = some (.int .u8 n)) (h1 : 0 ≤ n ∧ n ≤ 255) : IsN A .u8 i := IsN_of h h1
theorem sm1_spec : IsSpec sm1 := by
  refine ⟨rfl, mk_u32 (n := 1) rfl (by omega), mk_u8 (n := 1) rfl (by omega), ?_, mk_u32 (n := 0) rfl (by omega), mk_i64 (n := 1000) rfl (by omega)⟩
  intro i h1 h2
  have : i = 2 ∨ i = 3 ∨ i = 4 ∨ i = 5 ∨ i = 6 ∨ i = 7 ∨ i = 8 ∨ i = 9 ∨ i = 10 ∨ i = 11 ∨ i = 12 ∨ i = 13 ∨ i = 14 ∨ i = 15 ∨ i = 16 ∨ i = 17 ∨ i = 18 ∨ i = 19 ∨ i = 20 ∨ i = 21 ∨ i = 22 := by omega
  rcases this with rfl | rfl | rfl | rfl | rfl | rfl | rfl | rfl | rfl | rfl | rfl | rfl | rfl | rfl | rfl | rfl | rfl | rfl | rfl | rfl | rfl <;> exact mk_i64 rfl (by omega)
theorem smallA_spec (buy : Bool) (price qty : Int) : (smallA buy price qty).extract 0 25 = sm1 := by kernel_rfl
theorem smallA_gate (buy : Bool) (price qty : Int) (hp : F64 price) (hq : F64 qty) : IsGate (smallA buy price qty) where
  size := rfl
  spec := by rw [smallA_spec]; exact sm1_spec
  state := mk_u8 (n := 1) rfl (by omega)
  price := mk_i64 (n := 1000) rfl (by omega)
  num := mk_u32 (n := 1) rfl (by omega)
  cash := mk_i64 (n := 0) rfl (by omega)
  killed := IsB_of (b := false) rfl
  deflt := IsB_of (b := false) rfl
  q := mk_i64 (n := 20) rfl (by omega)
  buys := mk_i64 (n := 10) rfl (by omega)
  sells := mk_i64 (n := 0) rfl (by omega)
  buy := IsB_of (b := buy) rfl
  pr := mk_i64 (n := price) rfl hp
  qty := mk_i64 (n := qty) rfl hq

theorem known_1 : gchk (smallA true 1005 20) = 0 := by decide +kernel
theorem known_2 : gchk (smallA true 1005 30) = 125 := by decide +kernel
theorem known_3 : gchk (smallA false 1005 15) = 123 := by decide +kernel

set_option maxHeartbeats 1000000 in
theorem known12 (w : World) :
    Calls Try.prog 13 #[] w fun e w' => e = .returned (.bool true) ∧ Below w.heap.size w w' := by
  have hB := Below.refl w.heap.size w
  go_enter Try.func13, Try.ntmps13
  go_wp2_with fail
  refine (small_any _ _ _ _).mono ?_
  rintro e w1 ⟨rfl, hb⟩
  have hB := below_then hB hb
  clear hb
  go_wp2_with fail
  refine (check_any _ _ (smallA_gate _ _ _ ⟨by omega, by omega⟩ ⟨by omega, by omega⟩)).mono ?_
  rintro e w2 ⟨rfl, hb⟩
  have hB := below_then hB hb
  clear hb
  rw [known_1]
  go_wp2_with fail
  refine (small_any _ _ _ _).mono ?_
  rintro e w3 ⟨rfl, hb⟩
  have hB := below_then hB hb
  clear hb
  go_wp2_with fail
  refine (check_any _ _ (smallA_gate _ _ _ ⟨by omega, by omega⟩ ⟨by omega, by omega⟩)).mono ?_
  rintro e w4 ⟨rfl, hb⟩
  have hB := below_then hB hb
  clear hb
  rw [known_2]
  go_wp2_with fail
  refine (small_any _ _ _ _).mono ?_
  rintro e w5 ⟨rfl, hb⟩
  have hB := below_then hB hb
  clear hb
  go_wp2_with fail
  refine (check_any _ _ (smallA_gate _ _ _ ⟨by omega, by omega⟩ ⟨by omega, by omega⟩)).mono ?_
  rintro e w6 ⟨rfl, hb⟩
  have hB := below_then hB hb
  clear hb
  rw [known_3]
  go_wp2
  go_ret
  exact ⟨rfl, hB⟩
end Go.Proofs.Ytodbbcagpfjieaa
