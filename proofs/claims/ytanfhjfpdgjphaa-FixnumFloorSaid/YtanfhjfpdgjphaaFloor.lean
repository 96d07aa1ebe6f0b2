/- FixnumFloor and FixnumSigns: the walks. No condition. -/
import Derived.Test.YtanfhjfpdgjphaaKnown01
namespace Go.Proofs.Ytanfhjfpdgjphaa
set_option linter.unusedVariables false
set_option linter.unusedSimpArgs false
open Go.RowKit

theorem sg_abs (a : Int) (h : -2147483648 ≤ a ∧ a ≤ 2147483648) : ∃ (s : Bool) (x : Nat), a = sg s x ∧ (s = true → 0 < x) ∧ x ≤ 2147483648 := by
  by_cases h0 : a < 0
  · exact ⟨true, a.natAbs, by simp [sg]; omega, by omega, by omega⟩
  · exact ⟨false, a.natAbs, by simp [sg]; omega, by simp, by omega⟩

/-! ### the plain law: a quotient of sizes with a sign is the quotient rounded down -/
theorem sg_mul (a b : Bool) (x y : Nat) : sg a x * sg b y = sg (a != b) (x * y) := by
  cases a <;> cases b <;> simp [sg, Int.mul_neg, Int.neg_mul]
theorem neg_div (P z : Nat) (hz : 0 < z) : (-(P : Int)) / (z : Int) = mdv true P z := by
  have h := Nat.div_add_mod P z
  have hr := Nat.mod_lt P hz
  unfold mdv
  simp only [if_true]
  generalize hq : P / z = q at *
  generalize hr' : P % z = r at *
  have hP : (P : Int) = (z : Int) * q + r := by rw [← h]; simp
  split
  · rename_i h0
    have : -(P : Int) = (z : Int) * (-(q : Int)) := by rw [hP, h0, Int.mul_neg]; simp
    rw [this, Int.mul_ediv_cancel_left _ (by omega)]
  · rename_i h0
    have : -(P : Int) = ((z : Int) - r) + (z : Int) * (-(q : Int) - 1) := by rw [hP, Int.mul_sub, Int.mul_neg]; omega
    rw [this, Int.add_mul_ediv_left _ _ (by omega), Int.ediv_eq_zero_of_lt (by omega) (by omega)]
    omega
theorem mdv_fdiv (s c : Bool) (P z : Nat) (hz : 0 < z) : mdv (s != c) P z = Int.fdiv (sg s P) (sg c z) := by
  have hp : Int.fdiv (P : Int) (z : Int) = mdv false P z := by rw [Int.fdiv_eq_ediv_of_nonneg _ (by omega)]; rfl
  have hn : Int.fdiv (-(P : Int)) (z : Int) = mdv true P z := by rw [Int.fdiv_eq_ediv_of_nonneg _ (by omega)]; exact neg_div P z hz
  cases s <;> cases c
  · exact hp.symm
  · show mdv true P z = Int.fdiv (P : Int) (-(z : Int))
    rw [← hn]
    have := Int.neg_fdiv_neg (-(P : Int)) (z : Int)
    rw [Int.neg_neg] at this
    exact this.symm
  · exact hn.symm
  · show mdv false P z = Int.fdiv (-(P : Int)) (-(z : Int))
    rw [← hp]
    exact (Int.neg_fdiv_neg _ _).symm

/-- MulDiv of numbers of at most 2^31 either way: the quotient rounded down. -/
theorem muldiv_31 (a b c : Int) (w : World) (ha : -2147483648 ≤ a ∧ a ≤ 2147483648) (hb : -2147483648 ≤ b ∧ b ≤ 2147483648) (hc : -2147483648 ≤ c ∧ c ≤ 2147483648) (h0 : c ≠ 0) :
    Calls Try.prog 14 #[.int .i64 a, .int .i64 b, .int .i64 c] w fun e w' => e = .returned (.tuple #[.int .i64 (Int.fdiv (a * b) c), .int .i64 0]) ∧ Below w.heap.size w w' := by
  obtain ⟨sa, x, rfl, pa, lx⟩ := sg_abs a ha
  obtain ⟨sb, y, rfl, pb, ly⟩ := sg_abs b hb
  obtain ⟨sc, z, rfl, pc, lz⟩ := sg_abs c hc
  have hz0 : 0 < z := by rcases Nat.eq_zero_or_pos z with e | e; · subst e; cases sc <;> simp [sg] at h0
                         · exact e
  have hP : x * y ≤ 2147483648 * 2147483648 := Nat.mul_le_mul lx ly
  have h := muldiv_low sa sb sc x y z w (by omega) (by omega) (by omega) hz0 pa pb pc (by omega)
  refine h.mono ?_
  rintro e w' ⟨rfl, hbel⟩
  refine ⟨ret_ii ?_ rfl, hbel⟩
  rw [sg_mul]
  exact mdv_fdiv _ _ _ _ hz0

theorem fdiv_floor (p c : Int) (h : c ≠ 0) : (0 < c → 0 ≤ p - Int.fdiv p c * c ∧ p - Int.fdiv p c * c < c) ∧ (c < 0 → p - Int.fdiv p c * c ≤ 0 ∧ c < p - Int.fdiv p c * c) := by
  have he := Int.fmod_add_mul_fdiv p c
  rw [Int.mul_comm] at he
  refine ⟨fun h1 => ?_, fun h1 => ?_⟩
  · have h2 := Int.fmod_nonneg_of_pos p h1
    have h3 := Int.fmod_lt_of_pos p h1
    omega
  · have h2 := Int.fmod_nonneg_of_pos (-p) (show 0 < -c by omega)
    have h3 := Int.fmod_lt_of_pos (-p) (show 0 < -c by omega)
    have h4 : (-p).fmod (-c) = -(p.fmod c) := Int.neg_fmod_neg p c
    omega

theorem fdiv_bd (p c : Int) (h : c ≠ 0) (hp : -4611686018427387904 ≤ p ∧ p ≤ 4611686018427387904) : -4611686018427387904 ≤ Int.fdiv p c ∧ Int.fdiv p c ≤ 4611686018427387904 := by
  have hs : ∀ q : Int, ∃ (s : Bool) (x : Nat), q = sg s x ∧ (x : Int) ≤ q.natAbs := fun q => by
    by_cases h0 : q < 0
    · exact ⟨true, q.natAbs, by simp [sg]; omega, by omega⟩
    · exact ⟨false, q.natAbs, by simp [sg]; omega, by omega⟩
  obtain ⟨s, P, rfl, lP⟩ := hs p
  obtain ⟨sc, z, rfl, _⟩ := hs c
  have hz : 0 < z := by
    rcases Nat.eq_zero_or_pos z with e | e
    · subst e; cases sc <;> simp [sg] at h
    · exact e
  have hP : P ≤ 4611686018427387904 := by omega
  rw [← mdv_fdiv _ _ _ _ hz]
  have h1 := Nat.div_le_self P z
  unfold mdv
  split
  · split
    · clear lP
      generalize P / z = q at *
      omega
    · rename_i h3
      have hz2 : 1 < z := by
        rcases Nat.lt_or_ge 1 z with e | e
        · exact e
        · have : z = 1 := by omega
          subst this; simp [Nat.mod_one] at h3
      have hP0 : 0 < P := by
        rcases Nat.eq_zero_or_pos P with e | e
        · subst e; simp at h3
        · exact e
      have := Nat.div_lt_self hP0 hz2
      clear lP
      generalize P / z = q at *
      omega
  · clear lP
    generalize P / z = q at *
    omega

theorem prod_bd (a b : Int) (ha : -2147483648 ≤ a ∧ a ≤ 2147483648) (hb : -2147483648 ≤ b ∧ b ≤ 2147483648) : -4611686018427387904 ≤ a * b ∧ a * b ≤ 4611686018427387904 := by
  obtain ⟨sa, x, rfl, _, lx⟩ := sg_abs a ha
  obtain ⟨sb, y, rfl, _, ly⟩ := sg_abs b hb
  have hP : x * y ≤ 2147483648 * 2147483648 := Nat.mul_le_mul lx ly
  rw [sg_mul]
  cases (sa != sb) <;> simp only [sg, if_true] <;> (try simp only [Bool.false_eq_true, if_false]) <;> omega

theorem mul_31 (a b : Int) (w : World) (ha : -2147483648 ≤ a ∧ a ≤ 2147483648) (hb : -2147483648 ≤ b ∧ b ≤ 2147483648) :
    Calls Try.prog 13 #[.int .i64 a, .int .i64 b] w fun e w' => e = .returned (.tuple #[.int .i64 (a * b), .int .i64 0]) ∧ Below w.heap.size w w' := by
  have h : ∀ w, Calls Try.prog 14 #[.int .i64 a, .int .i64 b, .int .i64 1] w fun e w' => e = .returned (.tuple #[.int .i64 (a * b), .int .i64 0]) ∧ Below w.heap.size w w' := fun w => by
    have := muldiv_31 a b 1 w ha hb ⟨by omega, by omega⟩ (by omega)
    rw [Int.fdiv_one] at this
    exact this
  have H := Lib.hid h
  clear h ha hb
  go_enter Try.func13, Try.ntmps13
  go_wp2_with fail
  refine (H.out _).mono ?_
  rintro e w1 ⟨rfl, hbel⟩
  go_wp2
  go_ret2
  exact ⟨rfl, hbel⟩

set_option maxRecDepth 100000 in
set_option maxHeartbeats 1000000 in
theorem floor_out (a b c : Int) (w : World) (fa : F64 a) (fb : F64 b) (fc : F64 c) (h : c = 0 ∨ inB a (-2147483648) 2147483648 = false ∨ inB b (-2147483648) 2147483648 = false ∨ inB c (-2147483648) 2147483648 = false) :
    Calls Try.prog 6 #[.int .i64 a, .int .i64 b, .int .i64 c] w fun e w' => e = .returned (.bool true) ∧ Below w.heap.size w w' := by
  have hB := Below.refl w.heap.size w
  by_cases c0 : c = 0
  · have c0' : (c == 0) = true := by simp [c0]
    clear h c0
    go_enter Try.func6, Try.ntmps6
    go_wp2_with fail
    refine (known01 _).mono ?_
    rintro e w9 ⟨rfl, hb⟩
    have hB := below_then hB hb
    clear hb
    go_wp2
    go_ret
    exact ⟨rfl, hB⟩
  · have c0' : (c == 0) = false := by simp [c0]
    cases k1 : inB a (-2147483648) 2147483648
    · clear h
      go_enter Try.func6, Try.ntmps6
      go_wp2_with fail
      refine (within_any _ _ _ fa (by omega) (by omega)).mono ?_
      rintro e w' ⟨rfl, rfl⟩
      go_wp2_with fail
      refine (known01 _).mono ?_
      rintro e w9 ⟨rfl, hb⟩
      have hB := below_then hB hb
      clear hb
      go_wp2
      go_ret
      exact ⟨rfl, hB⟩
    · cases k2 : inB b (-2147483648) 2147483648
      · clear h
        go_enter Try.func6, Try.ntmps6
        go_wp2_with fail
        refine (within_any _ _ _ fa (by omega) (by omega)).mono ?_
        rintro e w' ⟨rfl, rfl⟩
        go_wp2_with fail
        refine (within_any _ _ _ fb (by omega) (by omega)).mono ?_
        rintro e w' ⟨rfl, rfl⟩
        go_wp2_with fail
        refine (known01 _).mono ?_
        rintro e w9 ⟨rfl, hb⟩
        have hB := below_then hB hb
        clear hb
        go_wp2
        go_ret
        exact ⟨rfl, hB⟩
      · have k3 : inB c (-2147483648) 2147483648 = false := by simpa [c0, k1, k2] using h
        clear h
        go_enter Try.func6, Try.ntmps6
        go_wp2_with fail
        refine (within_any _ _ _ fa (by omega) (by omega)).mono ?_
        rintro e w' ⟨rfl, rfl⟩
        go_wp2_with fail
        refine (within_any _ _ _ fb (by omega) (by omega)).mono ?_
        rintro e w' ⟨rfl, rfl⟩
        go_wp2_with fail
        refine (within_any _ _ _ fc (by omega) (by omega)).mono ?_
        rintro e w' ⟨rfl, rfl⟩
        go_wp2_with fail
        refine (known01 _).mono ?_
        rintro e w9 ⟨rfl, hb⟩
        have hB := below_then hB hb
        clear hb
        go_wp2
        go_ret
        exact ⟨rfl, hB⟩

set_option maxRecDepth 100000 in
set_option maxHeartbeats 1000000 in
theorem floor_in (a b c : Int) (w : World) (fa : F64 a) (fb : F64 b) (fc : F64 c) (c0 : c ≠ 0) (k1 : inB a (-2147483648) 2147483648 = true) (k2 : inB b (-2147483648) 2147483648 = true) (k3 : inB c (-2147483648) 2147483648 = true) :
    Calls Try.prog 6 #[.int .i64 a, .int .i64 b, .int .i64 c] w fun e w' => e = .returned (.bool true) ∧ Below w.heap.size w w' := by
  have hB := Below.refl w.heap.size w
  have c0' : (c == 0) = false := by simp [c0]
  have r1 := inB_iff.1 k1
  have r2 := inB_iff.1 k2
  have r3 := inB_iff.1 k3
  have hmd := fun w => muldiv_31 a b c w r1 r2 r3 c0
  have hmu := fun w => mul_31 a b w r1 r2
  have hfl := fdiv_floor (a * b) c c0
  have hpb := prod_bd a b r1 r2
  generalize a * b = p at *
  generalize Int.fdiv p c = q at *
  generalize hqc : q * c = s at *
  have HMD := Lib.hid hmd
  have HMU := Lib.hid hmu
  obtain ⟨p1, p2⟩ := hpb
  obtain ⟨r31, r32⟩ := r3
  clear hmd hmu r1 r2
  by_cases hc : 0 < c
  · obtain ⟨f1, f2⟩ := hfl.1 hc
    have hs : wrap64 s = s := wrap64_F ⟨by omega, by omega⟩
    clear hfl
    go_enter Try.func6, Try.ntmps6
    go_wp2_with fail
    refine (within_any _ _ _ fa (by omega) (by omega)).mono ?_
    rintro e w' ⟨rfl, rfl⟩
    go_wp2_with fail
    refine (within_any _ _ _ fb (by omega) (by omega)).mono ?_
    rintro e w' ⟨rfl, rfl⟩
    go_wp2_with fail
    refine (within_any _ _ _ fc (by omega) (by omega)).mono ?_
    rintro e w' ⟨rfl, rfl⟩
    go_wp2_with fail
    refine (HMD.out _).mono ?_
    rintro e w1 ⟨rfl, hb⟩
    have hB := below_then hB hb
    clear hb
    go_wp2_with fail
    refine (HMU.out _).mono ?_
    rintro e w2 ⟨rfl, hb⟩
    have hB := below_then hB hb
    clear hb
    go_wp2_with fail
    refine (known01 _).mono ?_
    rintro e w9 ⟨rfl, hb⟩
    have hB := below_then hB hb
    clear hb
    go_wp2
    go_ret
    exact ⟨rfl, hB⟩
  · obtain ⟨f1, f2⟩ := hfl.2 (by omega)
    have hs : wrap64 s = s := wrap64_F ⟨by omega, by omega⟩
    clear hfl
    go_enter Try.func6, Try.ntmps6
    go_wp2_with fail
    refine (within_any _ _ _ fa (by omega) (by omega)).mono ?_
    rintro e w' ⟨rfl, rfl⟩
    go_wp2_with fail
    refine (within_any _ _ _ fb (by omega) (by omega)).mono ?_
    rintro e w' ⟨rfl, rfl⟩
    go_wp2_with fail
    refine (within_any _ _ _ fc (by omega) (by omega)).mono ?_
    rintro e w' ⟨rfl, rfl⟩
    go_wp2_with fail
    refine (HMD.out _).mono ?_
    rintro e w1 ⟨rfl, hb⟩
    have hB := below_then hB hb
    clear hb
    go_wp2_with fail
    refine (HMU.out _).mono ?_
    rintro e w2 ⟨rfl, hb⟩
    have hB := below_then hB hb
    clear hb
    go_wp2_with fail
    refine (known01 _).mono ?_
    rintro e w9 ⟨rfl, hb⟩
    have hB := below_then hB hb
    clear hb
    go_wp2
    go_ret
    exact ⟨rfl, hB⟩

theorem floor_walk (a b c : Int) (w : World) (fa : F64 a) (fb : F64 b) (fc : F64 c) :
    Calls Try.prog 6 #[.int .i64 a, .int .i64 b, .int .i64 c] w fun e w' => e = .returned (.bool true) ∧ Below w.heap.size w w' := by
  by_cases c0 : c = 0
  · exact floor_out a b c w fa fb fc (.inl c0)
  · cases k1 : inB a (-2147483648) 2147483648
    · exact floor_out a b c w fa fb fc (.inr (.inl k1))
    · cases k2 : inB b (-2147483648) 2147483648
      · exact floor_out a b c w fa fb fc (.inr (.inr (.inl k2)))
      · cases k3 : inB c (-2147483648) 2147483648
        · exact floor_out a b c w fa fb fc (.inr (.inr (.inr k3)))
        · exact floor_in a b c w fa fb fc c0 k1 k2 k3

/-! ### FixnumSigns -/
theorem fdiv_turn (p c : Int) (h : c ≠ 0) : (p.tmod c = 0 → Int.fdiv (-p) c = - Int.fdiv p c) ∧ (p.tmod c ≠ 0 → Int.fdiv (-p) c = - Int.fdiv p c - 1) := by
  have hd : p.tmod c = 0 ↔ c ∣ p := (Int.dvd_iff_tmod_eq_zero).symm
  have e : Int.fdiv (-p) c = Int.fdiv p (-c) := by
    have := Int.neg_fdiv_neg p (-c)
    rw [Int.neg_neg] at this
    exact this
  rw [e, Int.fdiv_neg h]
  refine ⟨fun h1 => by rw [if_pos (hd.1 h1)], fun h1 => by rw [if_neg (fun hc => h1 (hd.2 hc))]⟩

set_option maxRecDepth 100000 in
set_option maxHeartbeats 1000000 in
theorem signs_out (a b c : Int) (w : World) (fa : F64 a) (fb : F64 b) (fc : F64 c) (h : c = 0 ∨ inB a (-2147483648) 2147483648 = false ∨ inB b (-2147483648) 2147483648 = false ∨ inB c (-2147483648) 2147483648 = false) :
    Calls Try.prog 5 #[.int .i64 a, .int .i64 b, .int .i64 c] w fun e w' => e = .returned (.bool true) ∧ Below w.heap.size w w' := by
  have hB := Below.refl w.heap.size w
  by_cases c0 : c = 0
  · have c0' : (c == 0) = true := by simp [c0]
    clear h c0
    go_enter Try.func5, Try.ntmps5
    go_wp2_with fail
    refine (known01 _).mono ?_
    rintro e w9 ⟨rfl, hb⟩
    have hB := below_then hB hb
    clear hb
    go_wp2
    go_ret
    exact ⟨rfl, hB⟩
  · have c0' : (c == 0) = false := by simp [c0]
    cases k1 : inB a (-2147483648) 2147483648
    · clear h
      go_enter Try.func5, Try.ntmps5
      go_wp2_with fail
      refine (within_any _ _ _ fa (by omega) (by omega)).mono ?_
      rintro e w' ⟨rfl, rfl⟩
      go_wp2_with fail
      refine (known01 _).mono ?_
      rintro e w9 ⟨rfl, hb⟩
      have hB := below_then hB hb
      clear hb
      go_wp2
      go_ret
      exact ⟨rfl, hB⟩
    · cases k2 : inB b (-2147483648) 2147483648
      · clear h
        go_enter Try.func5, Try.ntmps5
        go_wp2_with fail
        refine (within_any _ _ _ fa (by omega) (by omega)).mono ?_
        rintro e w' ⟨rfl, rfl⟩
        go_wp2_with fail
        refine (within_any _ _ _ fb (by omega) (by omega)).mono ?_
        rintro e w' ⟨rfl, rfl⟩
        go_wp2_with fail
        refine (known01 _).mono ?_
        rintro e w9 ⟨rfl, hb⟩
        have hB := below_then hB hb
        clear hb
        go_wp2
        go_ret
        exact ⟨rfl, hB⟩
      · have k3 : inB c (-2147483648) 2147483648 = false := by simpa [c0, k1, k2] using h
        clear h
        go_enter Try.func5, Try.ntmps5
        go_wp2_with fail
        refine (within_any _ _ _ fa (by omega) (by omega)).mono ?_
        rintro e w' ⟨rfl, rfl⟩
        go_wp2_with fail
        refine (within_any _ _ _ fb (by omega) (by omega)).mono ?_
        rintro e w' ⟨rfl, rfl⟩
        go_wp2_with fail
        refine (within_any _ _ _ fc (by omega) (by omega)).mono ?_
        rintro e w' ⟨rfl, rfl⟩
        go_wp2_with fail
        refine (known01 _).mono ?_
        rintro e w9 ⟨rfl, hb⟩
        have hB := below_then hB hb
        clear hb
        go_wp2
        go_ret
        exact ⟨rfl, hB⟩


set_option maxRecDepth 100000 in
set_option maxHeartbeats 1000000 in
theorem signs_in (a b c : Int) (w : World) (fa : F64 a) (fb : F64 b) (fc : F64 c) (c0 : c ≠ 0) (k1 : inB a (-2147483648) 2147483648 = true) (k2 : inB b (-2147483648) 2147483648 = true) (k3 : inB c (-2147483648) 2147483648 = true) :
    Calls Try.prog 5 #[.int .i64 a, .int .i64 b, .int .i64 c] w fun e w' => e = .returned (.bool true) ∧ Below w.heap.size w w' := by
  have hB := Below.refl w.heap.size w
  have c0' : (c == 0) = false := by simp [c0]
  obtain ⟨a1, a2⟩ := inB_iff.1 k1
  obtain ⟨b1, b2⟩ := inB_iff.1 k2
  obtain ⟨c1, c2⟩ := inB_iff.1 k3
  have h1 := fun w => muldiv_31 a b c w ⟨a1, a2⟩ ⟨b1, b2⟩ ⟨c1, c2⟩ c0
  have h2 := fun w => muldiv_31 (-a) b (-c) w ⟨by omega, by omega⟩ ⟨b1, b2⟩ ⟨by omega, by omega⟩ (by omega)
  have h3 := fun w => muldiv_31 (-a) (-b) c w ⟨by omega, by omega⟩ ⟨by omega, by omega⟩ ⟨c1, c2⟩ c0
  have h4 := fun w => muldiv_31 (-a) b c w ⟨by omega, by omega⟩ ⟨b1, b2⟩ ⟨c1, c2⟩ c0
  simp only [Int.neg_mul, Int.mul_neg, Int.neg_neg, Int.neg_fdiv_neg] at h2 h3 h4
  have hpb := prod_bd a b ⟨a1, a2⟩ ⟨b1, b2⟩
  obtain ⟨t1, t2⟩ := fdiv_turn (a * b) c c0
  have hqb := fdiv_bd (a * b) c c0 hpb
  generalize hab : a * b = p at *
  obtain ⟨p1, p2⟩ := hpb
  obtain ⟨q1, q2⟩ := hqb
  by_cases hl : p.tmod c = 0
  · rw [t1 hl] at h4
    have hl' : (p.tmod c != 0) = false := by simp [hl]
    generalize Int.fdiv p c = q at *
    have H1 := Lib.hid h1
    have H2 := Lib.hid h2
    have H3 := Lib.hid h3
    have H4 := Lib.hid h4
    clear h1 h2 h3 h4 t1 t2 hl
    go_enter Try.func5, Try.ntmps5
    go_wp2_with fail
    refine (within_any _ _ _ fa (by omega) (by omega)).mono ?_
    rintro e w' ⟨rfl, rfl⟩
    go_wp2_with fail
    refine (within_any _ _ _ fb (by omega) (by omega)).mono ?_
    rintro e w' ⟨rfl, rfl⟩
    go_wp2_with fail
    refine (within_any _ _ _ fc (by omega) (by omega)).mono ?_
    rintro e w' ⟨rfl, rfl⟩
    go_wp2_with fail
    refine (H1.out _).mono ?_
    rintro e w1 ⟨rfl, hb⟩
    have hB := below_then hB hb
    clear hb
    go_wp2_with fail
    refine (H2.out _).mono ?_
    rintro e w2 ⟨rfl, hb⟩
    have hB := below_then hB hb
    clear hb
    go_wp2_with fail
    refine (H3.out _).mono ?_
    rintro e w3 ⟨rfl, hb⟩
    have hB := below_then hB hb
    clear hb
    go_wp2_with fail
    refine (H4.out _).mono ?_
    rintro e w4 ⟨rfl, hb⟩
    have hB := below_then hB hb
    clear hb
    go_wp2_with fail
    refine (known01 _).mono ?_
    rintro e w9 ⟨rfl, hb⟩
    have hB := below_then hB hb
    clear hb
    go_wp2
    go_ret
    exact ⟨rfl, hB⟩
  · rw [t2 hl] at h4
    have hl' : (p.tmod c != 0) = true := by simp [hl]
    generalize Int.fdiv p c = q at *
    have H1 := Lib.hid h1
    have H2 := Lib.hid h2
    have H3 := Lib.hid h3
    have H4 := Lib.hid h4
    clear h1 h2 h3 h4 t1 t2 hl
    go_enter Try.func5, Try.ntmps5
    go_wp2_with fail
    refine (within_any _ _ _ fa (by omega) (by omega)).mono ?_
    rintro e w' ⟨rfl, rfl⟩
    go_wp2_with fail
    refine (within_any _ _ _ fb (by omega) (by omega)).mono ?_
    rintro e w' ⟨rfl, rfl⟩
    go_wp2_with fail
    refine (within_any _ _ _ fc (by omega) (by omega)).mono ?_
    rintro e w' ⟨rfl, rfl⟩
    go_wp2_with fail
    refine (H1.out _).mono ?_
    rintro e w1 ⟨rfl, hb⟩
    have hB := below_then hB hb
    clear hb
    go_wp2_with fail
    refine (H2.out _).mono ?_
    rintro e w2 ⟨rfl, hb⟩
    have hB := below_then hB hb
    clear hb
    go_wp2_with fail
    refine (H3.out _).mono ?_
    rintro e w3 ⟨rfl, hb⟩
    have hB := below_then hB hb
    clear hb
    go_wp2_with fail
    refine (H4.out _).mono ?_
    rintro e w4 ⟨rfl, hb⟩
    have hB := below_then hB hb
    clear hb
    go_wp2_with fail
    refine (known01 _).mono ?_
    rintro e w9 ⟨rfl, hb⟩
    have hB := below_then hB hb
    clear hb
    go_wp2
    go_ret
    exact ⟨rfl, hB⟩

theorem signs_walk (a b c : Int) (w : World) (fa : F64 a) (fb : F64 b) (fc : F64 c) :
    Calls Try.prog 5 #[.int .i64 a, .int .i64 b, .int .i64 c] w fun e w' => e = .returned (.bool true) ∧ Below w.heap.size w w' := by
  by_cases c0 : c = 0
  · exact signs_out a b c w fa fb fc (.inl c0)
  · cases k1 : inB a (-2147483648) 2147483648
    · exact signs_out a b c w fa fb fc (.inr (.inl k1))
    · cases k2 : inB b (-2147483648) 2147483648
      · exact signs_out a b c w fa fb fc (.inr (.inr (.inl k2)))
      · cases k3 : inB c (-2147483648) 2147483648
        · exact signs_out a b c w fa fb fc (.inr (.inr (.inr k3)))
        · exact signs_in a b c w fa fb fc c0 k1 k2 k3
end Go.Proofs.Ytanfhjfpdgjphaa
