/- What spec's calls answer of any Spec: plain readings of it. No condition but that the numbers fit their kinds. -/
import Derived.Test.YtobokknfpjjdeaaSmall
namespace Go.Proofs.Ytobokknfpjjdeaa
set_option linter.unusedVariables false
set_option linter.unusedSimpArgs false
open Go.RowKit

structure IsSpec (A : Array Value) : Prop where
  size : A.size = 25
  c0 : IsN A .u32 0
  c1 : IsN A .u8 1
  c : ∀ i, 2 ≤ i → i < 23 → IsN A .i64 i
  c23 : IsN A .u32 23
  c24 : IsN A .i64 24

theorem IsSpec.all {A : Array Value} (h : IsSpec A) : A.all (·.oneCell') = true := by
  refine all_one fun i v hv => ?_
  have hi : i < 25 := by have := (Array.getElem?_eq_some_iff.1 hv).1; rw [h.size] at this; exact this
  by_cases e0 : i = 0
  · subst e0; exact h.c0.one hv
  · by_cases e1 : i = 1
    · subst e1; exact h.c1.one hv
    · by_cases e23 : i = 23
      · subst e23; exact h.c23.one hv
      · by_cases e24 : i = 24
        · subst e24; exact h.c24.one hv
        · exact (h.c i (by omega) (by omega)).one hv

/-- of the first k shifts: are all within the bound? -/
def shTo (A : Array Value) : Nat → Bool
  | 0 => true
  | k + 1 => shTo A k && inB (N A (6 + k)) (-10000000) 10000000
def upTo (A : Array Value) : Nat → Bool
  | 0 => false
  | k + 1 => upTo A k || decide (0 < N A (6 + k))
def dnTo (A : Array Value) : Nat → Bool
  | 0 => false
  | k + 1 => dnTo A k || decide (N A (6 + k) < 0)
def mayB (A : Array Value) : Bool :=
  shTo A 16 && upTo A 16 && dnTo A 16 && (N A 0 != 0) && inB (N A 1) 1 8 && inB (N A 2) 1 10000000 && inB (N A 3) 1 1000000 && inB (N A 4) 0 10000000 && inB (N A 5) 1 10000000 && inB (N A 22) 0 10000000 && prB (N A 2) (N A 24)

theorem shTo_mono {A : Array Value} {k n : Nat} (h : shTo A n = true) (hk : k ≤ n) : shTo A k = true := by
  induction n with
  | zero => have : k = 0 := by omega
            subst this; exact h
  | succ n ih =>
    by_cases e : k = n + 1
    · subst e; exact h
    · exact ih (by simp [shTo] at h; exact h.1) (by omega)

theorem idx_sh {A : Array Value} (h : IsSpec A) (k : Nat) (hk : k < 16) (w : World) :
    (Instr.index 59 (.agg (A.extract 6 22)) (.int .i64 (k : Int))).run Try.prog w = .ok (.int .i64 (N A (6 + k))) w := by
  refine run_index_arr w _ 2 16 _ k _ Try.underlying59 (by kernel_rfl) (by kernel_rfl) hk ?_
  rw [Array.getElem?_extract, if_pos (by have := h.size; omega)]
  exact (h.c (6 + k) (by omega) (by omega)).1

set_option maxHeartbeats 1000000 in
theorem may_any (A : Array Value) (w : World) (h : IsSpec A) :
    Calls Try.prog 58 #[.agg A] w fun e w' => e = .returned (.bool (mayB A)) ∧ Below w.heap.size w w' := by
  have hsz := h.size
  obtain ⟨a0, b0, _⟩ := h.c0.u32
  obtain ⟨a1, b1, _⟩ := h.c1.u8
  obtain ⟨a2, b2, b2'⟩ := (h.c 2 (by omega) (by omega)).i64
  obtain ⟨a3, b3, b3'⟩ := (h.c 3 (by omega) (by omega)).i64
  obtain ⟨a4, b4, b4'⟩ := (h.c 4 (by omega) (by omega)).i64
  obtain ⟨a5, b5, b5'⟩ := (h.c 5 (by omega) (by omega)).i64
  obtain ⟨a22, b22, b22'⟩ := (h.c 22 (by omega) (by omega)).i64
  obtain ⟨a24, b24, b24'⟩ := h.c24.i64
  obtain ⟨S, hS⟩ : ∃ S, S = A.extract 6 22 := ⟨_, rfl⟩
  have HS := Lib.hid hS
  have Hsz := Lib.hid hsz
  clear hS hsz
  go_enter Try.func58, Try.ntmps58
  go_wp2_with (refine wpList_load_part rfl 59 _ rfl w.heap.size 6 rfl 61 A (0, 0) _ 16 (heap_alloc_new _ _) Try.underlying59 rfl (by kernel_rfl) (by rw [Hsz.out]; omega) S HS.out.symm ?_)
  have hidx := fun (k : Nat) (hk : k < 16) => idx_sh h k hk
  rw [← HS.out] at hidx
  have HI := Lib.hid hidx
  clear hidx
  go_loop [3, 4, 9] (fun u d i => ∃ k : Nat, k ≤ 16 ∧ i = .int .i64 k ∧ shTo A k = true ∧ u = .bool (upTo A k) ∧ d = .bool (dnTo A k)) (fun _ _ i => 16 - (intOf i).toNat)
  case atStart => exact ⟨0, by omega, rfl, rfl, rfl, rfl⟩
  case round =>
    obtain ⟨k, hk, rfl, hs, rfl, rfl⟩ := hrel
    by_cases hlt : k < 16
    · have hix := HI.out k hlt
      obtain ⟨_, e1, e2⟩ := (h.c (6 + k) (by omega) (by omega)).i64
      generalize hx : N A (6 + k) = x at *
      have Hx := Lib.hid hx
      have Hs := Lib.hid hs
      clear hx hs
      cases hin : inB x (-10000000) 10000000
      · have hfin : mayB A = false := by
          have : shTo A (k + 1) = false := by simp [shTo, Hx.out, hin]
          have : shTo A 16 = false := by
            rw [Bool.eq_false_iff]; intro h'; rw [shTo_mono h' (by omega)] at this; simp at this
          simp [mayB, this]
        have HF := Lib.hid hfin
        clear hfin
        go_wp2_with (go_at_call 75; refine (within_any _ _ _ ⟨by omega, by omega⟩ (by omega) (by omega)).mono ?_; rintro e w' ⟨rfl, rfl⟩)
        go_ret
        exact ⟨ret_beq HF.out.symm, (Below.refl _ _).alloc (Nat.le_refl _) _⟩
      · cases hu : upTo A k <;> cases hd : dnTo A k <;>
        · go_wp2_with (go_at_call 75; refine (within_any _ _ _ ⟨by omega, by omega⟩ (by omega) (by omega)).mono ?_; rintro e w' ⟨rfl, rfl⟩)
          go_round
          case rel => exact ⟨k + 1, by omega, by go_num, by simp [shTo, Hs.out, Hx.out, hin], by simp [upTo, Hx.out, hu], by simp [dnTo, Hx.out, hd]⟩
          case measure => simp [intOf]; omega
    · obtain rfl : k = 16 := by omega
      have hm : mayB A = (upTo A 16 && dnTo A 16 && (N A 0 != 0) && inB (N A 1) 1 8 && inB (N A 2) 1 10000000 && inB (N A 3) 1 1000000 && inB (N A 4) 0 10000000 && inB (N A 5) 1 10000000 && inB (N A 22) 0 10000000 && prB (N A 2) (N A 24)) := by simp [mayB, hs]
      have HM := Lib.hid hm
      clear hm hs HI
      generalize hu : upTo A 16 = u at *
      generalize hd : dnTo A 16 = d at *
      clear hu hd
      by_cases ht : inB (N A 2) 1 10000000 = true
      · have ht' := inB_iff.1 ht
        go_wp2_with (first | (go_at_call 76; refine (sin_any _ _ _ _).mono ?_; rintro e w' ⟨rfl, rfl⟩) | (go_at_call 77; refine (price_any _ _ _ (by omega) (by omega) ⟨by omega, by omega⟩).mono ?_; rintro e w' ⟨rfl, rfl⟩))
        all_goals (go_ret; refine ⟨ret_beq ?_, (Below.refl _ _).alloc (Nat.le_refl _) _⟩; rw [HM.out]; clear HM; simp [*])
      · simp only [Bool.not_eq_true] at ht
        go_wp2_with (first | (go_at_call 76; refine (sin_any _ _ _ _).mono ?_; rintro e w' ⟨rfl, rfl⟩))
        all_goals (go_ret; refine ⟨ret_beq ?_, (Below.refl _ _).alloc (Nat.le_refl _) _⟩; rw [HM.out]; clear HM; simp [*])

theorem mayB_facts {A : Array Value} (h : mayB A = true) : (1 ≤ N A 2 ∧ N A 2 ≤ 10000000) ∧ (1 ≤ N A 3 ∧ N A 3 ≤ 1000000) ∧ (0 ≤ N A 4 ∧ N A 4 ≤ 10000000) ∧ (1 ≤ N A 5 ∧ N A 5 ≤ 10000000) ∧ (0 ≤ N A 22 ∧ N A 22 ≤ 10000000) ∧ (1 ≤ N A 1 ∧ N A 1 ≤ 8) := by
  simp only [mayB, Bool.and_eq_true] at h
  obtain ⟨⟨⟨⟨⟨⟨⟨⟨⟨⟨_, _⟩, _⟩, _⟩, h1⟩, h2⟩, h3⟩, h4⟩, h5⟩, h22⟩, _⟩ := h
  exact ⟨inB_iff.1 h2, inB_iff.1 h3, inB_iff.1 h4, inB_iff.1 h5, inB_iff.1 h22, inB_iff.1 h1⟩

/-- a price of the contract; a quantity of it; within its band -/
def ipB (A : Array Value) (n : Int) : Bool := mayB A && prB (N A 2) n
def iqB (A : Array Value) (n : Int) : Bool := mayB A && inB n 1 1000000 && decide (n % N A 3 = 0)
def ibB (A : Array Value) (at_ n : Int) : Bool := mayB A && inB (n - at_) (-(N A 4)) (N A 4)

set_option maxHeartbeats 400000 in
theorem isprice_any (A : Array Value) (n : Int) (w : World) (h : IsSpec A) (hn : F64 n) :
    Calls Try.prog 62 #[.agg A, .int .i64 n] w fun e w' => e = .returned (.bool (ipB A n)) ∧ Below w.heap.size w w' := by
  have hsz := h.size
  obtain ⟨a2, b2, b2'⟩ := (h.c 2 (by omega) (by omega)).i64
  have hex : A.extract 0 25 = A := by rw [← hsz]; simp
  have HE := Lib.hid hex
  have Hsz := Lib.hid hsz
  clear hex hsz
  cases hm : mayB A
  · have HM := Lib.hid hm
    go_enter Try.func62, Try.ntmps62
    go_wp2_with (first | (refine wpList_load_part rfl 61 _ rfl w.heap.size 0 rfl 61 A (0, 0) _ 25 (heap_alloc_new _ _) Try.underlying61 rfl (by kernel_rfl) (by rw [Hsz.out]; omega) A HE.out ?_) | (go_at_call 58; refine (may_any _ _ h).mono ?_; rintro e w1 ⟨rfl, hb⟩; have hg := kept hb (heap_alloc_new _ _); have hc := (cells_of hg).1))
    go_ret
    exact ⟨ret_beq (by simp [ipB, HM.out]), ((Below.refl _ _).alloc (Nat.le_refl _) _).trans (hb.mono (by simp))⟩
  · have HM := Lib.hid hm
    obtain ⟨t1, t2⟩ := (mayB_facts hm).1
    go_enter Try.func62, Try.ntmps62
    go_wp2_with (first | (refine wpList_load_part rfl 61 _ rfl w.heap.size 0 rfl 61 A (0, 0) _ 25 (heap_alloc_new _ _) Try.underlying61 rfl (by kernel_rfl) (by rw [Hsz.out]; omega) A HE.out ?_) | (go_at_call 58; refine (may_any _ _ h).mono ?_; rintro e w1 ⟨rfl, hb⟩; have hg := kept hb (heap_alloc_new _ _); have hc := (cells_of hg).1) | (go_at_call 77; refine (price_any _ _ _ (by omega) (by omega) hn).mono ?_; rintro e w' ⟨rfl, rfl⟩))
    go_ret
    exact ⟨ret_beq (by simp [ipB, HM.out]), ((Below.refl _ _).alloc (Nat.le_refl _) _).trans (hb.mono (by simp))⟩
end Go.Proofs.Ytobokknfpjjdeaa
