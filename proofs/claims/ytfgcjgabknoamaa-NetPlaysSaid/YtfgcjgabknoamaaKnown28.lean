/- What is known of a small net comes out as it is said; no condition. -/
import Derived.Test.YtfgcjgabknoamaaNetNo
import Derived.Great.BuildSlice
import Derived.Lib.SlBytesConst
namespace Go.Proofs.Ytfgcjgabknoamaa
set_option linter.unusedVariables false
set_option linter.unusedSimpArgs false
open Go.RowKit

theorem byt1 {w : World} {g : Nat} {x : Int} {fr : Nat × Nat} (h : w.heap[g]? = some (.cells #[.int .u8 x] 5 fr)) : Byt w (some ⟨g, 0, none⟩) 1 (fun _ => x) := fun i hi => by
  obtain rfl : i = 0 := by omega
  exact ⟨g, 0, _, _, _, rfl, h, rfl⟩
theorem new_mark (w : World) (C : Array Value) (t : TypeId) (fr : Nat × Nat) : (w.alloc (Obj.cells C t fr)).heap[w.heap.size]? = some (.cells C t fr) := by show (w.heap.push _)[_]? = _; simp
theorem below_base {w w1 w2 : World} {B : Nat} (h1 : Below w.heap.size w w1) (hB : w.heap.size ≤ B) (h2 : Below B w1 w2) : Below w.heap.size w w2 := h1.trans ⟨h2.1, h2.2, h2.3, h2.size, fun k hk => h2.block k (by omega)⟩
theorem due_is {g base k : Nat} {F T Ag : Nat → Int} {S : Nat → Value} {Ln : Nat → Nat} {X : Nat → Nat → Int} (x : Int) (a b : Int) {w : World} (hN : NetIs w g base k F T Ag S Ln X) (ha : duN Ag x k = a) (hb : duE Ag x k = b) :
    Calls Try.prog 12 #[.pointer (some ⟨g, 0, none⟩), .int .u64 x] w fun e w' => e = .returned (.tuple #[.int .i64 a, .int .i64 b]) ∧ Below w.heap.size w w' := by
  subst ha hb
  exact due_any _ _ _ _ _ _ _ _ _ _ _ hN
theorem mail_is {g base k : Nat} {F T Ag : Nat → Int} {S : Nat → Value} {Ln : Nat → Nat} {X : Nat → Nat → Int} (i : Nat) (n : Int) (f t a : Int) {w : World} (hN : NetIs w g base k F T Ag S Ln X) (hn : n = i) (hi : i < k) (hf : F i = f) (ht : T i = t) (ha : Ag i = a) :
    Calls Try.prog 15 #[.pointer (some ⟨g, 0, none⟩), .int .i64 n] w fun e w' => ∃ v', e = .returned (.tuple #[.agg (m3 f t v'), .int .u64 a, .int .i64 0]) ∧ BytT w' v' (Ln i) (X i) ∧ Below w.heap.size w w' := by
  subst hn hf ht ha
  exact mail_in _ _ _ _ _ _ _ _ _ _ _ hN hi
set_option maxRecDepth 100000 in
set_option maxHeartbeats 2000000 in
theorem known28 (w : World) :
    Calls Try.prog 7 #[] w fun e w' => e = .returned (.bool true) ∧ Below w.heap.size w w' := by
  have kc := fun (w : World) (C : Array Value) (n c : Nat) => Lib.run_convert_bytes_const (P := Try.prog) w 22 5 C n c Try.underlying22 Try.underlying5
  have HZ := Lib.hid (fun f t a n c => show (m3 f t (.slice a n c)).size = 3 from rfl)
  go_enter Try.func7, Try.ntmps7
  go_wp2_with (first | (go_at_call 8; (with_reducible refine (new_net _).mono ?_); rintro e w1 ⟨rfl, hN1, hb1⟩) | ((with_reducible refine at_build 24 ?_); refine wpList_build_named rfl 24 _ rfl (m3 1 0 (.slice (some ⟨w1.heap.size, 0, none⟩) 1 1)) (by kernel_rfl) ?_))
  go_at_call 9
  have hb2 := below_alloc hb1 (Obj.cells #[.int .u8 97] 5 (1, 2))
  refine (send_any w.heap.size w.heap.size 0 _ _ _ _ _ _ 1 0 (some ⟨w1.heap.size, 0, none⟩) 1 1 (fun _ => 97) _ (hN1.kept (below_new w1 _)) (byt1 (new_mark _ _ _ _)) (fun h => by cases h) (by omega) (by omega)).mono ?_
  rintro e w3 ⟨⟨s, rfl, hN3⟩, hb3⟩
  have hB3 := below_base hb2 (Nat.le_refl _) hb3
  clear hN1 hb1 hb2 hb3
  go_wp2_with ((go_at_call 14; (with_reducible refine (tick_any _ _ _ _ _ _ _ _ _ _ hN3).mono ?_); rintro e w4 ⟨rfl, hN4, hb4⟩))
  go_at_call 9
  have hB4 := below_base hB3 (Nat.le_refl _) hb4
  have hB5 := below_alloc hB4 (Obj.cells #[.int .u8 98] 5 (1, 2))
  refine (send_any w.heap.size w.heap.size (0 + 1) _ _ _ _ _ _ 2 0 (some ⟨w4.heap.size, 0, none⟩) 1 1 (fun _ => 98) _ (hN4.kept (below_new w4 _)) (byt1 (new_mark _ _ _ _)) (fun h => by cases h) (by omega) (by omega)).mono ?_
  rintro e w5 ⟨⟨s2, rfl, hN5⟩, hb5⟩
  have hB5 := below_base hB5 (Nat.le_refl _) hb5
  clear hN3 hN4 hB3 hB4 hb4 hb5 kc
  go_wp2_with fail
  go_at_call 12
  refine (due_is 1 0 0 hN5 (by kernel_rfl) (by kernel_rfl)).mono ?_
  rintro e w6 ⟨rfl, hb6⟩
  have hN6 := hN5.kept hb6
  have hB6 := below_then hB5 hb6
  clear hN5 hB5 hb6
  go_wp2_with fail
  go_at_call 12
  refine (due_is 2 0 7 hN6 (by kernel_rfl) (by kernel_rfl)).mono ?_
  rintro e w7 ⟨rfl, hb7⟩
  have hN7 := hN6.kept hb7
  have hB7 := below_then hB6 hb7
  clear hN6 hB6 hb7
  go_wp2_with fail
  go_at_call 15
  refine (mail_is 1 1 2 0 0 hN7 rfl (by omega) (by kernel_rfl) (by kernel_rfl) (by kernel_rfl)).mono ?_
  rintro e w8 ⟨v', rfl, ⟨sa, sc, hv', _⟩, hb8⟩
  have hB8 := below_then hB7 hb8
  clear hN7 hB7 hb8
  have HM := Lib.hid (show (m3 2 0 v').size = 3 from rfl)
  have H0 := Lib.hid (show (m3 2 0 v')[0]? = some (.int .i64 2) from rfl)
  have HA := Lib.hid (show (m3 2 0 v').all (·.oneCell') = true from hv' ▸ m3_all)
  clear hv'
  generalize m3 2 0 v' = M at *
  go_wp2_with (first | ((with_reducible refine at_alloc 24 ?_); refine wpList_alloc_named rfl 24 rfl (m3 0 0 (.slice none 0 0)) (by kernel_rfl) ?_) | ((with_reducible refine at_store 24 ?_); refine wpList_store_over rfl 24 _ _ rfl (w8.heap.size) (M) rfl rfl _ _ (heap_alloc_new _ _) (by rw [HM.out]; kernel_rfl) (by rw [HM.out]; rfl) (HA.out) ?_; intro w9 hg9 hs9 ho9 hb9; have cg9 := cellF hg9; have h0 := H0.out))
  go_ret
  exact ⟨rfl, (below_alloc hB8 _).trans (hb9 _ hB8.size)⟩
end Go.Proofs.Ytfgcjgabknoamaa
