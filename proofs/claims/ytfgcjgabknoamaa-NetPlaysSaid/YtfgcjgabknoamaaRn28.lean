/- The document's net: its places and ages. Condition: the net is one. -/
import Derived.Test.YtfgcjgabknoamaaNetOps
import Derived.Test.YtfgcjgabknoamaaCloneF
import Derived.Test.YtfgcjgabknoamaaQuiet
namespace Go.Proofs.Ytfgcjgabknoamaa
set_option linter.unusedVariables false
set_option linter.unusedSimpArgs false
open Go.RowKit

/-- the document's net, its row v its own -/
structure RNet (w : World) (g base k : Nat) (now : Int) (F T At : Nat → Int) (S : Nat → Value) (Ln : Nat → Nat) (X : Nat → Nat → Int) (v : Value) : Prop where
  row : w.heap[g]? = some (.cells #[v, .int .u64 now] 48 (0, 0))
  own : w.ownsRow base 65 4 v k (flat (fun i => p4 (F i) (T i) (S i) (At i)) k)
  by_ : ∀ i, i < k → BytT w (S i) (Ln i) (X i)
  sl : ∀ i, ∃ a n c, S i = .slice a n c
  bg : base ≤ g
  at_ : ∀ i, i < k → 0 ≤ At i ∧ At i ≤ now
  hn : 0 ≤ now ∧ now ≤ 18446744073709551615
  lg : ∀ i, i < k → Ln i ≤ 1048576
  hk : k ≤ 2000
theorem RNet.kept {w w' : World} {g base k : Nat} {now : Int} {F T At : Nat → Int} {S : Nat → Value} {Ln : Nat → Nat} {X : Nat → Nat → Int} {v : Value} (h : RNet w g base k now F T At S Ln X v) (hb : Below w.heap.size w w') : RNet w' g base k now F T At S Ln X v :=
  ⟨Ytfgcjgabknoamaa.kept hb h.row, own_below hb h.own, fun i hi => (h.by_ i hi).kept hb, h.sl, h.bg, h.at_, h.hn, h.lg, h.hk⟩
theorem rthere_any {w : World} {g base k : Nat} {now : Int} {F T At : Nat → Int} {S : Nat → Value} {Ln : Nat → Nat} {X : Nat → Nat → Int} {v : Value} (i : Int) (h : RNet w g base k now F T At S Ln X v) :
    Calls Try.prog 31 #[.pointer (some ⟨g, 0, none⟩), .int .i64 i] w fun e w' => e = .returned (.bool (decide (0 ≤ i ∧ i < k))) ∧ w = w' := by
  have hk := h.hk
  obtain ⟨ra, rc, rfl, _⟩ := own_rows (c := 4) (fun i => rfl) h.own
  have cg := cellF h.row
  clear h
  by_cases h0 : 0 ≤ i
  · by_cases h1 : i < k
    · rw [show decide (0 ≤ i ∧ i < (k : Int)) = true from decide_eq_true ⟨h0, h1⟩]
      go_enter Try.func31, Try.ntmps31
      go_wp2
      go_ret
      exact ⟨rfl, rfl⟩
    · rw [show decide (0 ≤ i ∧ i < (k : Int)) = false from decide_eq_false (fun h => h1 h.2)]
      go_enter Try.func31, Try.ntmps31
      go_wp2
      go_ret
      exact ⟨rfl, rfl⟩
  · rw [show decide (0 ≤ i ∧ i < (k : Int)) = false from decide_eq_false (fun h => h0 h.1)]
    go_enter Try.func31, Try.ntmps31
    go_wp2
    go_ret
    exact ⟨rfl, rfl⟩
set_option maxHeartbeats 1000000 in
theorem rage_in {w : World} {g base k i : Nat} {now : Int} {F T At : Nat → Int} {S : Nat → Value} {Ln : Nat → Nat} {X : Nat → Nat → Int} {v : Value} (h : RNet w g base k now F T At S Ln X v) (hi : i < k) :
    Calls Try.prog 32 #[.pointer (some ⟨g, 0, none⟩), .int .i64 i] w fun e w' => e = .returned (.int .u64 (now - At i)) ∧ Below w.heap.size w w' := by
  have hk := h.hk
  obtain ⟨ra, rc, rfl, hR, _⟩ := own_rows (c := 4) (fun i => rfl) h.own
  obtain ⟨gb, off, A, fr, rfl, hgA, hszA, hexA⟩ := hR i hi
  have hex : A.extract (off + i * 4) (off + i * 4 + 4) = p4 (F i) (T i) (S i) (At i) := hexA
  have hc3 : A[off + i * 4 + 3]? = some (.int .u64 (At i)) := by
    have h := congrArg (fun B : Array Value => B[3]?) hex
    simp only [Array.getElem?_extract] at h
    rw [if_pos (by omega)] at h
    exact h
  have ha := h.at_ i hi
  have hn := h.hn
  have hik : (i : Int) < k := by omega
  have HG := Lib.hid h.row
  have HA := Lib.hid hgA
  clear h hR hex hexA
  generalize At i = ati at *
  have hwr : IntKind.u64.wrap (now - ati) = now - ati := by
    unfold IntKind.wrap
    simp [IntKind.signed, IntKind.bits]
    omega
  go_enter Try.func32, Try.ntmps32
  go_wp2
  refine wp_region_below (by kernel_rfl) (by kernel_rfl) ?_
  repeat (first | ((with_reducible apply q_skip); (case hw => rfl); (try simp only [Act.put, List.setIfInBounds_toArray, List.set_cons_zero, List.set_cons_succ])) | ((with_reducible apply q_val); (case hw => rfl); (case hv => intro wq hbq; have hcL := cellF (Ytfgcjgabknoamaa.kept hbq HG.out); have hcA := cellF (Ytfgcjgabknoamaa.kept hbq HA.out); go_simp; try rfl); (try simp only [Act.put, List.setIfInBounds_toArray, List.set_cons_zero, List.set_cons_succ])))
  refine q_nil ?_
  intro w4 hb4
  go_wp2
  go_ret
  exact ⟨rfl, hb4⟩
/-- the ages that the document sees -/
def agR (now : Int) (At : Nat → Int) : Nat → Int := fun i => now - At i
set_option maxHeartbeats 1000000 in
theorem rdue_net {w : World} {g base k : Nat} {now : Int} {F T At : Nat → Int} {S : Nat → Value} {Ln : Nat → Nat} {X : Nat → Nat → Int} {v : Value} (x : Int) (h : RNet w g base k now F T At S Ln X v) :
    Calls Try.prog 21 #[.pointer (some ⟨g, 0, none⟩), .int .u64 x] w fun e w' => e = .returned (.tuple #[.int .i64 (duN (agR now At) x k), .int .i64 (duE (agR now At) x k)]) ∧ Below w.heap.size w w' := by
  have hk := h.hk
  have HN := Lib.hid h
  obtain ⟨ra, rc, rfl, _⟩ := own_rows (c := 4) (fun i => rfl) h.own
  have HG := Lib.hid h.row
  have CA := Lib.hid (fun (i : Nat) (hi : i < k) (w1 : World) (hb : Below w.heap.size w w1) => rage_in (h.kept hb) hi)
  clear h
  go_enter Try.func21, Try.ntmps21
  go_wp2
  go_loopg [6] k (fun gh v6 wr => ∃ j : Nat, j ≤ k ∧ gh = k - j ∧ v6 = .int .i64 j ∧ du (agR now At) x j = -1 ∧ Below w.heap.size w wr)
  case atStart => exact ⟨0, by omega, by omega, rfl, rfl, Below.refl _ _⟩
  case round =>
    obtain ⟨j, hj, rfl, rfl, hd, hb⟩ := hrel
    have HD := Lib.hid hd
    have HB := Lib.hid hb
    have cg := cellF (Ytfgcjgabknoamaa.kept hb HG.out)
    clear hd
    by_cases hjk : j < k
    · have hjki : (j : Int) < k := by omega
      have ca := CA.out j hjk wr hb
      have HX : agR now At j = now - At j := rfl
      rw [← HX] at ca
      by_cases hx : x ≤ agR now At j
      · have HH := Lib.hid (du_hit HD.out hx hjk)
        generalize agR now At j = y at *
        go_wp2_with ((go_at_call 32; (with_reducible refine (ca).mono ?_); rintro e w2 ⟨rfl, hb2⟩))
        go_ret2
        exact ⟨by unfold duN duE; rw [HH.out, if_neg (by omega), if_neg (by omega)]; rfl, below_then HB.out hb2⟩
      · have HH := Lib.hid (du_next HD.out hx)
        generalize agR now At j = y at *
        go_wp2_with ((go_at_call 32; (with_reducible refine (ca).mono ?_); rintro e w2 ⟨rfl, hb2⟩))
        go_roundg (k - (j + 1))
        case measure => omega
        case rel => exact ⟨j + 1, by omega, rfl, by go_num, HH.out, below_then HB.out hb2⟩
    · obtain rfl : j = k := by omega
      go_wp2
      go_ret2
      exact ⟨by unfold duN duE; rw [HD.out]; rfl, HB.out⟩
end Go.Proofs.Ytfgcjgabknoamaa
