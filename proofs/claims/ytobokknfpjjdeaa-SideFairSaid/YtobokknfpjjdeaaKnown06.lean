/- What is known of a small side comes out as it is said; no condition. -/
import Derived.Test.YtobokknfpjjdeaaSideAd
import Derived.Test.YtobokknfpjjdeaaSideB
import Derived.Test.YtobokknfpjjdeaaReach
namespace Go.Proofs.Ytobokknfpjjdeaa
set_option linter.unusedVariables false
set_option linter.unusedSimpArgs false
open Go.RowKit

/-- the four orders -/
def odA (j : Nat) : Array Value := #[.int .u64 (j + 1), .int .u32 (j + 1), .bool true, .int .i64 (if j % 2 = 0 then 10 else 12), .int .i64 5]
/-- the side behind j of them -/
def LS : Nat → Nat → Array Value
  | 0 => fun _ => zo
  | j + 1 => ins (LS j) (plc true (LS j) (odA j) j) (odA j)
theorem odA_ord (j : Nat) (hj : j < 4) : IsOrd (odA j) := by
  have : j = 0 ∨ j = 1 ∨ j = 2 ∨ j = 3 := by omega
  rcases this with rfl | rfl | rfl | rfl <;> exact ⟨rfl, IsN_of rfl (by decide), IsN_of rfl (by decide), IsB_of rfl, IsN_of rfl (by decide), IsN_of rfl (by decide)⟩
theorem odA_ok : ∀ j, j < 4 → okO (odA j) = true := by decide
theorem LS_new : ∀ j, j < 4 → ∀ i, i < j → N (LS j i) 0 ≠ N (odA j) 0 := by decide
theorem LS_2 : N (LS 4 0) 0 = 2 := by decide
theorem odA_add {w : World} {g base : Nat} (j : Nat) (hj : j < 4) (h : SideIs w g base j true (LS j)) : Calls Try.prog 13 #[.pointer (some ⟨g, 0, none⟩), .agg (odA j)] w fun e w' => e = .returned (.int .i64 0) ∧ SideIs w' g base (j + 1) true (LS (j + 1)) ∧ Below base w w' ∧ Ko g w w' :=
  sadd_ok true h (odA_ord j hj) (odA_ok j hj) rfl (LS_new j hj) (by omega)
theorem LS_reach1 {w : World} {g base : Nat} (h : SideIs w g base 4 true (LS 4)) : Calls Try.prog 14 #[.pointer (some ⟨g, 0, none⟩), .int .i64 12, .int .u32 0] w fun e w' => e = .returned (.int .i64 10) ∧ Below w.heap.size w w' := by
  refine (sreach_yes 12 0 h).mono ?_
  rintro e w' ⟨⟨j, hj, h1, h2, rfl⟩, hb⟩
  have e2 : j = 2 := by
    have q0 : bet true 12 (N (LS 4 0) 3) = false := by decide
    have q1 : bet true 12 (N (LS 4 1) 3) = false := by decide
    have q2 : bet true 12 (N (LS 4 2) 3) = true := by decide
    have : j = 0 ∨ j = 1 ∨ j = 2 ∨ j = 3 ∨ j = 4 := by omega
    rcases this with rfl | rfl | rfl | rfl | rfl
    · rcases h2 with h | h
      · cases h
      · rw [q0] at h; cases h
    · rcases h2 with h | h
      · cases h
      · rw [q1] at h; cases h
    · rfl
    · have := h1 2 (by omega); rw [q2] at this; cases this
    · have := h1 2 (by omega); rw [q2] at this; cases this
  subst e2
  exact ⟨by rw [show rchA (LS 4) 0 2 = 10 by kernel_rfl], hb⟩
theorem LS_reach2 {w : World} {g base : Nat} (h : SideIs w g base 4 true (LS 4)) : Calls Try.prog 14 #[.pointer (some ⟨g, 0, none⟩), .int .i64 10, .int .u32 4] w fun e w' => e = .returned (.int .i64 15) ∧ Below w.heap.size w w' := by
  refine (sreach_yes 10 4 h).mono ?_
  rintro e w' ⟨⟨j, hj, h1, h2, rfl⟩, hb⟩
  have e2 : j = 4 := by
    rcases h2 with h2 | h2
    · exact h2
    · have q : ∀ j, j < 4 → bet true 10 (N (LS 4 j) 3) = false := by decide
      by_cases e : j = 4
      · exact e
      · rw [q j (by omega)] at h2; cases h2
  subst e2
  exact ⟨by rw [show rchA (LS 4) 4 4 = 15 by kernel_rfl], hb⟩

def p4 : Array Value := #[.int .i64 10, .int .i64 12, .int .i64 10, .int .i64 12]
set_option maxRecDepth 100000 in
set_option maxHeartbeats 2000000 in
theorem known06 (w : World) : Calls Try.prog 12 #[] w fun e w' => e = .returned (.bool true) ∧ Below w.heap.size w w' := by
  have hne : ∀ (w : World) (g : Nat), (binOp .eql 23 (.pointer (some ⟨g, 0, none⟩)) (.pointer none)).run Try.prog w = .ok (.bool false) w := fun _ _ => by kernel_rfl
  have H4 := Lib.hid (show p4.all (·.oneCell') = true by kernel_rfl)
  have HS := Lib.hid (show p4.size = 4 from rfl)
  go_enter Try.func12, Try.ntmps12
  go_wp2_with (first | (go_at_call 11; (with_reducible refine (new_side _ _).mono ?_); rintro e w1 ⟨rfl, hN1, hb1⟩) | ((with_reducible refine at_alloc 96 ?_); refine wpList_alloc_named rfl 96 rfl (#[.int .i64 0, .int .i64 0, .int .i64 0, .int .i64 0]) (by kernel_rfl) ?_) | ((with_reducible refine at_build 96 ?_); refine wpList_build_named rfl 96 _ rfl (p4) (by kernel_rfl) ?_) | ((with_reducible refine at_store 96 ?_); refine wpList_store_new rfl 96 _ _ rfl (p4) _ _ _ rfl (by simp) rfl (by rw [HS.out]; kernel_rfl) (by rw [HS.out]; rfl) (H4.out) ?_))
  obtain ⟨gp, hgp⟩ : ∃ gp, gp = w1.heap.size := ⟨_, rfl⟩
  have hb2 := below_new w1 (Obj.cells p4 96)
  have hp2 := heap_alloc_new w1 (Obj.cells p4 96)
  have hN2 := hN1.kept hb2
  have hB2 := below_then hb1 hb2
  have hgg : gp ≠ w.heap.size := by
    obtain ⟨v, hg, _⟩ := hN1.row
    have := (cells_of hg).2.2
    omega
  rw [← hgp] at hp2 ⊢
  generalize w1.alloc (Obj.cells p4 96) = w2 at *
  clear hb2 hgp hN1 hb1
  go_loopg [10] 4 (fun gh i wr => ∃ (j : Nat) (z : Int), j ≤ 4 ∧ gh = 4 - j ∧ z = j ∧ i = .int .i64 z ∧ SideIs wr w.heap.size w.heap.size j true (LS j) ∧ wr.heap[gp]? = some (.cells p4 96 (0, 0)) ∧ Below w.heap.size w wr)
  case atStart => exact ⟨0, 0, by omega, rfl, rfl, rfl, hN2, hp2, hB2⟩
  case round =>
    obtain ⟨j, z, hj, rfl, hz, rfl, hSj, hpj, hBj⟩ := hrel
    have cp := cellF hpj
    have q0 : p4[0]? = some (.int .i64 10) := rfl
    have q1 : p4[1]? = some (.int .i64 12) := rfl
    have q2 : p4[2]? = some (.int .i64 10) := rfl
    have q3 : p4[3]? = some (.int .i64 12) := rfl
    by_cases hlt : j < 4
    · have hjj : j = 0 ∨ j = 1 ∨ j = 2 ∨ j = 3 := by omega
      have ca := odA_add j hlt hSj
      rcases hjj with rfl | rfl | rfl | rfl
      · obtain rfl : z = 0 := hz
        go_wp2_with (first | ((with_reducible refine at_build 31 ?_); refine wpList_build_named rfl 31 _ rfl (odA 0) (by kernel_rfl) ?_) | (go_at_call 13; (with_reducible refine (ca).mono ?_); rintro e w4 ⟨rfl, hS4, hb4, hk4⟩))
        go_roundg (4 - 1)
        case measure => omega
        case rel => exact ⟨1, 1, by omega, rfl, rfl, rfl, hS4, hk4.cells gp _ _ _ (by decide) hgg hpj, hBj.trans hb4⟩
      · obtain rfl : z = 1 := hz
        go_wp2_with (first | ((with_reducible refine at_build 31 ?_); refine wpList_build_named rfl 31 _ rfl (odA 1) (by kernel_rfl) ?_) | (go_at_call 13; (with_reducible refine (ca).mono ?_); rintro e w4 ⟨rfl, hS4, hb4, hk4⟩))
        go_roundg (4 - 2)
        case measure => omega
        case rel => exact ⟨2, 2, by omega, rfl, rfl, rfl, hS4, hk4.cells gp _ _ _ (by decide) hgg hpj, hBj.trans hb4⟩
      · obtain rfl : z = 2 := hz
        go_wp2_with (first | ((with_reducible refine at_build 31 ?_); refine wpList_build_named rfl 31 _ rfl (odA 2) (by kernel_rfl) ?_) | (go_at_call 13; (with_reducible refine (ca).mono ?_); rintro e w4 ⟨rfl, hS4, hb4, hk4⟩))
        go_roundg (4 - 3)
        case measure => omega
        case rel => exact ⟨3, 3, by omega, rfl, rfl, rfl, hS4, hk4.cells gp _ _ _ (by decide) hgg hpj, hBj.trans hb4⟩
      · obtain rfl : z = 3 := hz
        go_wp2_with (first | ((with_reducible refine at_build 31 ?_); refine wpList_build_named rfl 31 _ rfl (odA 3) (by kernel_rfl) ?_) | (go_at_call 13; (with_reducible refine (ca).mono ?_); rintro e w4 ⟨rfl, hS4, hb4, hk4⟩))
        go_roundg (4 - 4)
        case measure => omega
        case rel => exact ⟨4, 4, by omega, rfl, rfl, rfl, hS4, hk4.cells gp _ _ _ (by decide) hgg hpj, hBj.trans hb4⟩
    · obtain rfl : j = 4 := by omega
      obtain rfl : z = 4 := hz
      have HLO := Lib.hid ((hSj.ord 0).size)
      have HLA := Lib.hid ((hSj.ord 0).all)
      have hm0 : (LS 4 0)[0]? = some (.int .u64 2) := by have := (hSj.ord 0).n.1; rwa [LS_2] at this
      have HJ := Lib.hid hSj
      have cb := sbest_yes hSj (by omega)
      generalize LS 4 0 = M at *
      clear hSj
      go_wp2_with (first | (go_at_call 15; (with_reducible refine (cb).mono ?_); rintro e w5 ⟨rfl, hb5⟩; have hb5a := below_alloc hb5 (Obj.cells M 31); have hS5 := HJ.out.kept hb5a) | (go_at_call 14; (with_reducible refine (LS_reach1 hS5).mono ?_); rintro e w6 ⟨rfl, hb6⟩; have hb6a := below_then hb5a hb6; have hS6 := HJ.out.kept hb6a) | (go_at_call 14; (with_reducible refine (LS_reach2 hS6).mono ?_); rintro e w7 ⟨rfl, hb7⟩; have hb7a := below_then hb6a hb7; have cl7 := slen_yes (HJ.out.kept hb7a)) | (go_at_call 21; (with_reducible refine (cl7).mono ?_); rintro e w8 ⟨rfl, rfl⟩) | ((with_reducible refine at_alloc 31 ?_); refine wpList_alloc_named rfl 31 rfl (zo) (by kernel_rfl) ?_) | ((with_reducible refine at_store 31 ?_); refine wpList_store_new rfl 31 _ _ rfl (M) _ _ _ rfl (by simp) rfl (by rw [HLO.out]; kernel_rfl) (by rw [HLO.out]; rfl) (HLA.out) ?_))
      go_ret
      exact ⟨rfl, below_then hBj hb7a⟩
end Go.Proofs.Ytobokknfpjjdeaa
