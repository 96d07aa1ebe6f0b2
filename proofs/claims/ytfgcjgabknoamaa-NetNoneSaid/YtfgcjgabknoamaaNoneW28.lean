/- NetNone, walked: it returns true. No condition. -/
import Derived.Test.YtfgcjgabknoamaaKnown28
namespace Go.Proofs.Ytfgcjgabknoamaa
set_option linter.unusedVariables false
set_option linter.unusedSimpArgs false
open Go.RowKit

theorem net_zero (w : World) : NetIs (w.alloc (Obj.cells #[.slice none 0 0] 56)) w.heap.size w.heap.size 0 (fun _ => 0) (fun _ => 0) (fun _ => 0) (fun _ => .slice none 0 0) (fun _ => 0) (fun _ _ => 0) :=
  ⟨⟨_, heap_alloc_new _ _, World.ownsRow_nil _ _ _ _⟩, fun i hi => by omega, fun i => ⟨_, _, _, rfl⟩, Nat.le_refl _, fun i hi => by omega, fun i hi => by omega, by omega⟩
theorem byt0 (w : World) : Byt w none 0 (fun _ => 0) := fun i hi => by omega
theorem send_none' (w : World) : Calls Try.prog 9 #[.pointer none, .agg mz] w fun e w' => e = .returned (.int .i64 1) ∧ Below w.heap.size w w' := send_none 0 0 none 0 0 w
theorem send_zero {g : Nat} {w : World} (hN : NetIs w g g 0 (fun _ => 0) (fun _ => 0) (fun _ => 0) (fun _ => .slice none 0 0) (fun _ => 0) (fun _ _ => 0)) :
    Calls Try.prog 9 #[.pointer (some ⟨g, 0, none⟩), .agg mz] w fun e w' => e = .returned (.int .i64 0) ∧ (∃ F T Ag S Ln X, NetIs w' g g 1 F T Ag S Ln X) ∧ Below g w w' :=
  (send_any g g 0 _ _ _ _ _ _ 0 0 none 0 0 (fun _ => 0) w hN (byt0 w) (fun _ => ⟨rfl, rfl⟩) (by omega) (by omega)).mono fun e w' ⟨⟨s, he, hn⟩, hb⟩ => ⟨he, ⟨_, _, _, _, _, _, hn⟩, hb⟩
set_option maxRecDepth 100000 in
set_option maxHeartbeats 4000000 in
theorem none_walk (i x : Int) (w : World) {p q : Prop} (_ : p) (_ : q) :
    Calls Try.prog 6 #[.int .i64 i, .int .u64 x] w fun e w' => e = .returned (.bool true) ∧ Below w.heap.size w w' := by
  have HZ := Lib.hid mz_size
  have HA := Lib.hid mz_all
  have hN := net_zero w
  have hB := below_new w (Obj.cells #[.slice none 0 0] 56)
  have hcp : ∀ w1 : World, (binOp .eql 26 (.pointer none) (.pointer none)).run Try.prog w1 = .ok (.bool true) w1 := fun _ => by kernel_rfl
  go_enter Try.func6, Try.ntmps6
  go_wp2_with ((go_at_call 14; (with_reducible refine (tick_none _).mono ?_); rintro e w1 ⟨rfl, rfl⟩))
  go_at_call 15
  refine (mail_none i _).mono ?_
  rintro e w1 ⟨rfl, hb1⟩
  have hN1 := hN.kept hb1
  have hB1 := below_then hB hb1
  clear hN hB hb1
  go_wp2_with (first | ((with_reducible refine at_alloc 24 ?_); refine wpList_alloc_named rfl 24 rfl mz (by kernel_rfl) ?_) | ((with_reducible refine at_store 24 ?_); refine wpList_store_over rfl 24 _ _ rfl (w1.heap.size) (mz) rfl rfl _ _ (heap_alloc_new _ _) (by rw [HZ.out]; kernel_rfl) (rfl) (HA.out) ?_; intro w2 hg2 hs2 ho2 hb2))
  go_at_call 13
  have hb12 := (below_new w1 (Obj.cells mz 24)).trans (hb2 _ (Nat.le_refl _))
  have hN2 := hN1.kept hb12
  have hB2 := below_then hB1 hb12
  clear hN1 hB1 hb12 hb2 hg2 hs2 ho2
  refine (take_none i _).mono ?_
  rintro e w3 ⟨rfl, hb3⟩
  have hN3 := hN2.kept hb3
  have hB3 := below_then hB2 hb3
  clear hN2 hB2 hb3
  go_wp2_with (first | ((with_reducible refine at_alloc 24 ?_); refine wpList_alloc_named rfl 24 rfl mz (by kernel_rfl) ?_) | ((with_reducible refine at_store 24 ?_); refine wpList_store_over rfl 24 _ _ rfl (w3.heap.size) (mz) rfl rfl _ _ (heap_alloc_new _ _) (by rw [HZ.out]; kernel_rfl) (rfl) (HA.out) ?_; intro w4 hg4 hs4 ho4 hb4))
  go_at_call 12
  have hb34 := (below_new w3 (Obj.cells mz 24)).trans (hb4 _ (Nat.le_refl _))
  have hN4 := hN3.kept hb34
  have hB4 := below_then hB3 hb34
  clear hN3 hB3 hb34 hb4 hg4 hs4 ho4
  refine (due_none x _).mono ?_
  rintro e w5 ⟨rfl, hb5⟩
  have hN5 := hN4.kept hb5
  have hB5 := below_then hB4 hb5
  clear hN4 hB4 hb5
  go_wp2_with fail
  go_at_call 12
  refine (due_is x 0 7 hN5 rfl rfl).mono ?_
  rintro e w6 ⟨rfl, hb6⟩
  have hN6 := hN5.kept hb6
  have hB6 := below_then hB5 hb6
  clear hN5 hB5 hb6
  go_wp2_with ((with_reducible refine at_build 24 ?_); refine wpList_build_named rfl 24 _ rfl mz (by kernel_rfl) ?_)
  go_at_call 9
  refine (send_none' _).mono ?_
  rintro e w7 ⟨rfl, hb7⟩
  have hN7 := hN6.kept hb7
  have hB7 := below_then hB6 hb7
  clear hN6 hB6 hb7
  go_wp2_with (first | ((with_reducible refine at_build 24 ?_); refine wpList_build_named rfl 24 _ rfl mz (by kernel_rfl) ?_) | (go_at_call 11; (with_reducible refine (nlen_none _).mono ?_); rintro e w8 ⟨rfl, rfl⟩) | (go_at_call 10; (with_reducible refine (twice_none _ _).mono ?_); rintro e w8 ⟨rfl, rfl⟩) | (go_at_call 22; (with_reducible refine (purge_none _ _).mono ?_); rintro e w8 ⟨rfl, rfl⟩) | (go_at_call 24; (with_reducible refine (copy_none _).mono ?_); rintro e w8 ⟨rfl, rfl⟩))
  go_at_call 9
  refine (send_zero hN7).mono ?_
  rintro e w8 ⟨rfl, ⟨F, T, Ag, S, Ln, X, hN8⟩, hb8⟩
  have hB8 := below_base hB7 (Nat.le_refl _) hb8
  clear hN7 hB7 hb8
  go_wp2_with (first | (go_at_call 11; (with_reducible refine (nlen_any _ _ _ _ _ _ _ _ _ _ hN8).mono ?_); rintro e w9 ⟨rfl, rfl⟩) | (go_at_call 7; (with_reducible refine (known28 _).mono ?_); rintro e w9 ⟨rfl, hb9⟩))
  go_ret
  exact ⟨rfl, below_then hB8 hb9⟩
end Go.Proofs.Ytfgcjgabknoamaa
