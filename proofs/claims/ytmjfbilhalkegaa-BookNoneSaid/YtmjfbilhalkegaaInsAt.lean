/- slices.Insert of one element into a row of the call's own: the row is the same block, or a new one. No condition. -/
import Derived.Test.YtmjfbilhalkegaaInsO
import Derived.Maps.AppendAt
import Derived.Lib.SmallJoins
namespace Go.Proofs.Ytmjfbilhalkegaa
set_option linter.unusedVariables false
set_option linter.unusedSimpArgs false
open Go.RowKit

theorem own_some {w : World} {b c k : Nat} {e : TypeId} {v : Value} {xs : List Value} (h : w.ownsRow b e c v (k + 1) xs) : v.ownBlock ≠ none := by
  obtain ⟨_, ⟨_, h0⟩ | ⟨g, cap, cur, rfl, _⟩⟩ := h
  · omega
  · intro e; cases e
set_option maxRecDepth 100000 in
set_option maxHeartbeats 2000000 in
/-- behind the last -/
theorem insend_at (base k : Nat) (xs : List Value) (v : Value) (gx : Nat) (B : Array Value) (w : World) (ho : w.ownsRow base 30 5 v k xs) (hk : k ≤ 1000) (hB : B.size = 5) (hB1 : B.all (·.oneCell') = true) (hx : w.heap[gx]? = some (.cells B 30 (0, 0))) (hb : base ≤ w.heap.size) :
    Calls Try.prog 51 #[v, .int .i64 k, .slice (some ⟨gx, 0, none⟩) 1 1] w fun e w' => ∃ v', e = .returned v' ∧ w'.ownsRow base 30 5 v' (k + 1) (xs ++ B.toList) ∧ w.grownBy w' v.ownBlock ∧ (v'.ownBlock = v.ownBlock ∨ ∃ q, v'.ownBlock = some q ∧ w.heap.size ≤ q) := by
  obtain ⟨i, z, h1, h2, h3, h4, h5⟩ := info_ord
  have HO := Lib.hid ho
  have HX := Lib.hid (fun j u (hj : B.toList[j]? = some u) => show w.cell? ((⟨gx, 0, none⟩ : Addr).add j) = some u from by
    have h2 : (⟨gx, 0, none⟩ : Addr).add j = ⟨gx, j, none⟩ := by unfold Addr.add; split <;> simp_all
    rw [h2, cellF hx]
    simpa using hj)
  have HB := Lib.hid (fun u (hu : u ∈ B.toList) => show u.oneCell' = true from by rw [Array.all_eq_true'] at hB1; exact hB1 u (by simpa using hu))
  have HL := Lib.hid (show B.toList.length = 1 * 5 by simp [hB])
  have HBY := Lib.hid (show (k + 1) * i.bytes ≤ 140737488355328 from by have := Nat.mul_le_mul (show k + 1 ≤ 1001 by omega) h4; omega)
  have hm : ((v = .slice none 0 0 ∧ k = 0) ∨ ∃ g rc, v = .slice (some ⟨g, 0, none⟩) k rc ∧ k ≤ rc ∧ rc ≤ 9223372036854775807) := by
    rcases ho.2 with h | ⟨g, cap, cur, hv, _, _, hn, hm, _⟩
    · exact .inl h
    · exact .inr ⟨g, cap, hv, hn, by unfold maxLen at hm; omega⟩
  clear ho hB1 hx
  rcases hm with ⟨rfl, rfl⟩ | ⟨g, rc, rfl, hkr, hrc⟩
  · go_enter Try.func51, Try.ntmps51
    go_wp2_with ((with_reducible refine at_append_ord ?_); refine wpList_append_own_at w rfl _ _ _ rfl base 30 i z 5 i.bytes Try.underlying35 h1 h2 h3 rfl h5 (by omega) _ _ _ rfl HO.out ⟨gx, 0, none⟩ 1 1 B.toList rfl HL.out HX.out HB.out (by unfold maxLen; omega) HBY.out hb ?_; intro v' w1 ho1 hg1 _ hat1)
    go_ret
    exact ⟨_, rfl, ho1, hg1, hat1.imp id (fun e => ⟨_, e, Nat.le_refl _⟩)⟩
  · by_cases hck : rc = k
    · subst hck
      go_enter Try.func51, Try.ntmps51
      go_wp2_with ((with_reducible refine at_append_ord ?_); refine wpList_append_own_at w rfl _ _ _ rfl base 30 i z 5 i.bytes Try.underlying35 h1 h2 h3 rfl h5 (by omega) _ _ _ rfl HO.out ⟨gx, 0, none⟩ 1 1 B.toList rfl HL.out HX.out HB.out (by unfold maxLen; omega) HBY.out hb ?_; intro v' w1 ho1 hg1 _ hat1)
      go_ret
      exact ⟨_, rfl, ho1, hg1, hat1.imp id (fun e => ⟨_, e, Nat.le_refl _⟩)⟩
    · go_enter Try.func51, Try.ntmps51
      go_wp2_with ((with_reducible refine at_append_ord ?_); refine wpList_append_own_at w rfl _ _ _ rfl base 30 i z 5 i.bytes Try.underlying35 h1 h2 h3 rfl h5 (by omega) _ _ _ rfl HO.out ⟨gx, 0, none⟩ 1 1 B.toList rfl HL.out HX.out HB.out (by unfold maxLen; omega) HBY.out hb ?_; intro v' w1 ho1 hg1 _ hat1)
      go_ret
      exact ⟨_, rfl, ho1, hg1, hat1.imp id (fun e => ⟨_, e, Nat.le_refl _⟩)⟩
/-- slices.Insert of one element at whatever place of a row of the call's own -/
theorem insany_at (base k i : Nat) (L : Nat → Array Value) (v : Value) (gx : Nat) (B : Array Value) (w : World) (hL : ∀ i, (L i).size = 5) (h1L : ∀ i, (L i).all (·.oneCell') = true) (ho : w.ownsRow base 30 5 v k (flat L k)) (hk : k ≤ 1000) (hi : i ≤ k) (hB : B.size = 5) (hB1 : B.all (·.oneCell') = true)
    (hx : w.heap[gx]? = some (.cells B 30 (0, 0))) (hne : some gx ≠ v.ownBlock) (hb : base ≤ w.heap.size) :
    Calls Try.prog 51 #[v, .int .i64 i, .slice (some ⟨gx, 0, none⟩) 1 1] w fun e w' => ∃ v', e = .returned v' ∧ w'.ownsRow base 30 5 v' (k + 1) (flat (ins L i B) (k + 1)) ∧ w.grownBy w' v.ownBlock ∧ (v'.ownBlock = v.ownBlock ∨ ∃ q, v'.ownBlock = some q ∧ w.heap.size ≤ q) := by
  have hfl := flatc_len hL k
  rw [← flat_ins (by omega) hL hB hi]
  by_cases hik : i = k
  · subst hik
    rw [List.take_of_length_le (by rw [hfl]; omega), List.drop_of_length_le (by rw [hfl]; omega), List.append_nil]
    exact insend_at base i (flat L i) v gx B w ho hk hB hB1 hx hb
  · obtain ⟨_, ⟨rfl, h0⟩ | ⟨g, cap, cur, rfl, hbg, hg, hn, hm, hc, ht⟩⟩ := ho
    · omega
    · have hng : gx ≠ g := fun e => hne (by rw [e]; rfl)
      unfold maxLen at hm
      by_cases hroom : k + 1 ≤ cap
      · exact (insroom_ord base k i g cap gx (flat L k) B cur w hbg hg hc ht hfl (flatc_one h1L k) (by omega) hroom (by omega) hB hB1 hx hng).mono fun e w' ⟨h1, h2, h3⟩ => ⟨_, h1, h2, h3, .inl rfl⟩
      · exact (insgrow_ord w.heap.size k i g cap gx (flat L k) B cur w hg ht hfl (flatc_one h1L k) (by omega) hk hn (by omega) hB hB1 hx (Nat.le_refl _)).mono fun e w' ⟨v', h1, h2, h3⟩ => ⟨v', h1, Go.Joins.ownsRow_le h2 hb, h3, by
        cases hq : v'.ownBlock with
        | none => exact absurd hq (own_some h2)
        | some q => exact .inr ⟨q, rfl, (h2.lt q hq).1⟩⟩
end Go.Proofs.Ytmjfbilhalkegaa
