/- The document's Split: when there are no parts. Condition: the numbers fit their kinds. -/
import Derived.Test.YtanfhjfpdgjphaaSplit
import Derived.Test.YtanfhjfpdgjphaaRSum
import Derived.Test.YtanfhjfpdgjphaaIntA
namespace Go.Proofs.Ytanfhjfpdgjphaa
set_option linter.unusedVariables false
set_option linter.unusedSimpArgs false
open Go.RowKit

/-- the slice of the document's parts: its own row -/
def RSplV (Z : Nat → Int) (n : Nat) (T : Int) (s : Nat) (w' : World) (v : Value) : Prop :=
  (splE Z n T = 0 → w'.ownsRow s 2 1 v n (zl (fun i => (splP Z n T i : Nat)) n)) ∧ (splE Z n T ≠ 0 → v = .slice none 0 0)
def RSplC (a : Option Addr) (n cap : Nat) (Z : Nat → Int) (T : Int) (w : World) : Prop :=
  Calls Try.prog 30 #[.int .i64 T, .slice a n cap] w fun e w' => (∃ v, e = .returned (.tuple #[v, .int .i64 (splE Z n T)]) ∧ RSplV Z n T w.heap.size w' v) ∧ Below w.heap.size w w'

set_option maxRecDepth 100000 in
set_option maxHeartbeats 2000000 in
theorem rspl_long (a : Option Addr) (n cap : Nat) (Z : Nat → Int) (T : Int) (w : World) (hn : 1000 < n) : RSplC a n cap Z T w := by
  have he : splE Z n T = 3 := by unfold splE; rw [if_pos hn]
  unfold RSplC
  rw [he]
  have hni : (1000 : Int) < n := by omega
  have HE := Lib.hid he
  clear he
  go_enter Try.func30, Try.ntmps30
  go_wp2
  go_ret2
  exact ⟨⟨_, rfl, fun h => by rw [HE.out] at h; omega, fun _ => rfl⟩, Below.refl _ _⟩

set_option maxRecDepth 100000 in
set_option maxHeartbeats 2000000 in
theorem rspl_neg (a : Option Addr) (n cap : Nat) (Z : Nat → Int) (T : Int) (w : World) (hn : n ≤ 1000) (hA : Ints w a n Z) (h : T < 0 ∨ ∃ i, i < n ∧ Z i < 0) : RSplC a n cap Z T w := by
  have he : splE Z n T = 2 := by unfold splE; rw [if_neg (by omega), if_pos h]
  unfold RSplC
  rw [he]
  have hni : ¬ (1000 : Int) < n := by omega
  have HE := Lib.hid he
  have HA := Lib.hid hA
  have HH := Lib.hid h
  clear he hA h
  by_cases hT : T < 0
  · go_enter Try.func30, Try.ntmps30
    go_wp2
    go_loopg [6] n (fun gh v6 wr => ∃ k : Nat, k ≤ n ∧ gh = n - k ∧ v6 = .int .i64 k ∧ wr = w)
    case atStart => exact ⟨0, by omega, by omega, rfl, rfl⟩
    case round =>
      obtain ⟨k, hk, rfl, rfl, rfl⟩ := hrel
      by_cases hlt : k < n
      · have hki : (k : Int) < n := by omega
        obtain ⟨g, off, B, t, fr, rfl, hg, hz⟩ := HA.out k hlt
        have cg := cellF hg
        by_cases hz0 : Z k < 0
        · generalize Z k = z at *
          go_wp2
          go_ret2
          exact ⟨⟨_, rfl, fun h => by rw [HE.out] at h; omega, fun _ => rfl⟩, Below.refl _ _⟩
        · generalize Z k = z at *
          go_wp2
          go_roundg (n - (k + 1))
          case measure => omega
          case rel => exact ⟨k + 1, by omega, rfl, by go_num, rfl⟩
      · obtain rfl : k = n := by omega
        go_wp2
        go_ret2
        exact ⟨⟨_, rfl, fun h => by rw [HE.out] at h; omega, fun _ => rfl⟩, Below.refl _ _⟩
  · go_enter Try.func30, Try.ntmps30
    go_wp2
    go_loopg [6] n (fun gh v6 wr => ∃ k : Nat, k ≤ n ∧ gh = n - k ∧ v6 = .int .i64 k ∧ (∀ i, i < k → 0 ≤ Z i) ∧ wr = w)
    case atStart => exact ⟨0, by omega, by omega, rfl, fun i hi => by omega, rfl⟩
    case round =>
      obtain ⟨k, hk, rfl, rfl, hp, rfl⟩ := hrel
      have HP := Lib.hid hp
      clear hp
      by_cases hlt : k < n
      · have hki : (k : Int) < n := by omega
        obtain ⟨g, off, B, t, fr, rfl, hg, hz⟩ := HA.out k hlt
        have cg := cellF hg
        obtain ⟨z, hze⟩ : ∃ z, z = Z k := ⟨_, rfl⟩
        rw [← hze] at hz
        have HZE := Lib.hid hze
        clear hze
        by_cases hz0 : z < 0
        · go_wp2
          go_ret2
          exact ⟨⟨_, rfl, fun h => by rw [HE.out] at h; omega, fun _ => rfl⟩, Below.refl _ _⟩
        · have HZ0 := Lib.hid hz0
          go_wp2
          go_roundg (n - (k + 1))
          case measure => omega
          case rel => exact ⟨k + 1, by omega, rfl, by go_num, fun i hi => by
            by_cases e : i = k
            · subst e; have := HZ0.out; have := HZE.out; omega
            · exact HP.out i (by omega), rfl⟩
      · exfalso
        obtain ⟨i, h1, h2⟩ := HH.out.resolve_left (by omega)
        have := HP.out i (by omega)
        omega
end Go.Proofs.Ytanfhjfpdgjphaa
