/- slices.Delete of one order out of a row of a side's own. No condition. -/
import Derived.Test.YtmjfbilhalkegaaSideA
namespace Go.Proofs.Ytmjfbilhalkegaa
set_option linter.unusedVariables false
set_option linter.unusedSimpArgs false
open Go.RowKit

def pzo : Value := .agg zo
theorem zero_ord (w : World) : (zeroValue 30).run Try.prog w = .ok pzo w := by kernel_rfl
theorem pzo_one : ∀ v ∈ pzo.cells, v.oneCell' = true := by
  intro v hv
  have : v ∈ zo := hv
  simp only [zo, List.mem_toArray, List.mem_cons, List.not_mem_nil, or_false] at this
  rcases this with rfl | rfl | rfl | rfl | rfl <;> rfl
set_option maxHeartbeats 4000000 in
set_option maxRecDepth 100000 in
theorem delo_any (base k i : Nat) (L : Nat → Array Value) (ra : Option Addr) (rc : Nat) (w : World) (hL : ∀ j, (L j).size = 5) (hone : ∀ j, (L j).all (·.oneCell') = true) (ho : w.ownsRow base 30 5 (.slice ra k rc) k (flat L k)) (hi : i < k) :
    Calls Try.prog 45 #[.slice ra k rc, .int .i64 i, .int .i64 (i + 1)] w fun e w' => e = .returned (.slice ra (k - 1) rc) ∧ w'.ownsRow base 30 5 (.slice ra (k - 1) rc) (k - 1) (flat (rem L i) (k - 1)) ∧ Below base w w' ∧ (∀ b, some b ≠ (Value.slice ra k rc).ownBlock → w'.heap[b]? = w.heap[b]?) := by
  obtain ⟨_, ⟨h0, hk0⟩ | ⟨g, cap, cur, hv, hbg, hg, hn, hm, hc, ht⟩⟩ := ho
  · omega
  cases hv
  unfold maxLen at hm
  have hgd : w.drew.heap[g]? = some (.cells cur 30 (0, 0)) := hg
  have hdl : (flat L k).length = k * 5 := flatc_len hL k
  have hat : ∀ j, j < k * 5 → cur[j]? = (flat L k)[j]? := fun j hj => by
    rw [← ht, List.getElem?_take, if_pos hj, Array.getElem?_toList]
  obtain ⟨news, hnews⟩ : ∃ news, news = (flat L k).drop ((i + 1) * 5) := ⟨_, rfl⟩
  have hnl : news.length = (k - (i + 1)) * 5 := by rw [hnews, List.length_drop, hdl]; omega
  have hget : ∀ t, news[t]? = (flat L k)[(i + 1) * 5 + t]? := fun t => by rw [hnews, List.getElem?_drop]
  obtain ⟨A, hA, hsrc⟩ : ∃ A : Addr, (if rc = i + 1 then some (⟨g, 0, none⟩ : Addr) else some ⟨g, (i + 1) * 5, none⟩) = some A ∧ Hid (∀ t u, news[t]? = some u → w.drew.cell? (A.add t) = some u) := by
    by_cases h : rc = i + 1
    · refine ⟨⟨g, 0, none⟩, by simp [h], fun t u hu => ?_⟩
      have h0 : news.length = 0 := by rw [hnl]; omega
      rw [List.length_eq_zero_iff.1 h0] at hu
      simp at hu
    · refine ⟨⟨g, (i + 1) * 5, none⟩, by simp [h], fun t u hu => ?_⟩
      have hlt : t < news.length := (List.getElem?_eq_some_iff.1 hu).1
      have h2 : (⟨g, (i + 1) * 5, none⟩ : Addr).add t = ⟨g, (i + 1) * 5 + t, none⟩ := by unfold Addr.add; split <;> simp_all
      rw [h2, cellF hgd, hat _ (by omega), ← hget, hu]
  have s1 : Hid (news.length = (k - (i + 1)) * 5) := hnl
  have s2 : Hid (∀ u ∈ news, u.oneCell' = true) := fun u hu => flatc_one hone k u (by rw [hnews] at hu; exact List.mem_of_mem_drop hu)
  have s3 : Hid (∀ t, t < news.length → (w.drew.cell? ⟨g, 0 + i * 5 + t, none⟩).isSome = true ∧ w.drew.frozen? ⟨g, 0 + i * 5 + t, none⟩ = false) := by
    intro t htl
    have hlt : 0 + i * 5 + t < cur.size := by rw [hc]; omega
    exact ⟨by rw [cellF hgd, Array.getElem?_eq_getElem hlt]; rfl, (cells_of hgd).2.1 _⟩
  obtain ⟨W1, hW1⟩ : ∃ W1, W1 = w.drew.setCells g (0 + i * 5) news := ⟨_, rfl⟩
  obtain ⟨A1, a1, a2, a3, a4, a5⟩ := setc_block news (0 + i * 5) w.drew cur hgd (by omega)
  rw [← hW1] at a1
  obtain ⟨A2, b1, b2, b3, b4, b5⟩ := setc_block pzo.cells.toList ((k - 1) * 5) W1 A1 a1 (by rw [a2, hc, show pzo.cells.toList.length = 5 from rfl]; omega)
  have hcl : ∀ ty cc, (Builtin.clear_ #[35] ty #[.slice (some ⟨g, (k - 1) * 5, none⟩) 1 cc]).run Try.prog W1 = .ok (.tuple #[]) (W1.setCells g ((k - 1) * 5) pzo.cells.toList) :=
    fun ty cc => run_clear_one W1 _ _ ty pzo 5 Try.underlying35 zero_ord rfl pzo_one g ((k - 1) * 5) cc (fun j hj => by rw [cellF a1, Array.getElem?_eq_getElem (by rw [a2, hc]; omega)]; rfl) (fun j hj => (cells_of a1).2.1 _)
  have HO : Hid ((W1.setCells g ((k - 1) * 5) pzo.cells.toList).ownsRow base 30 5 (.slice (some ⟨g, 0, none⟩) (k - 1) rc) (k - 1) (flat (rem L i) (k - 1)) ∧ Below base w (W1.setCells g ((k - 1) * 5) pzo.cells.toList) ∧ (∀ b, some b ≠ (Value.slice (some ⟨g, 0, none⟩) k rc).ownBlock → (W1.setCells g ((k - 1) * 5) pzo.cells.toList).heap[b]? = w.heap[b]?)) := by
    refine ⟨⟨flatc_len (fun j => by unfold rem; split <;> exact hL _) _, .inr ⟨g, rc, A2, rfl, hbg, b1, by omega, hm, by rw [b2, a2, hc], ?_⟩⟩, ?_, fun b hb => ?_⟩
    · refine flat_rem (c := 5) (by omega) hL hi (by rw [b2, a2, hc]; omega) (fun j hj => ?_) (fun j h1 h2 => ?_)
      · rw [b3 j (by omega), a3 j (by omega), hat j (by omega)]
      · rw [b3 j (by omega), show j = 0 + i * 5 + (j - i * 5) by omega, a4 _ (by omega), hget]
        congr 1
        omega
    · rw [hW1]
      exact setc_below hbg _ _ _ (setc_below hbg _ _ _ (Below.drew (Below.refl _ _)))
    · have hne : b ≠ g := fun e => hb (by rw [e]; rfl)
      rw [setc_other hne, hW1, setc_other hne]
      rfl
  have hW : Hid (W1 = w.drew.setCells g (0 + i * 5) news) := hW1
  have e1 : i + (k - (i + 1)) = k - 1 := by omega
  have hcl' : ∀ ty cc, (Builtin.clear_ #[35] ty #[.slice (some ⟨g, (i + (k - (i + 1))) * 5, none⟩) (k - (i + (k - (i + 1)))) cc]).run Try.prog W1 = .ok (.tuple #[]) (W1.setCells g ((k - 1) * 5) pzo.cells.toList) := fun ty cc => by
    rw [e1, show k - (k - 1) = 1 by omega]
    exact hcl ty cc
  have HE1 := Lib.hid e1
  clear hcl e1
  generalize W1.setCells g ((k - 1) * 5) pzo.cells.toList = W2 at *
  obtain ⟨ip, zp, ip1, ip2, ip3, ip4, ip5⟩ := info_ord
  have hic : i ≤ rc := by omega
  have hjc : i + 1 ≤ rc := by omega
  have hh1 : (0 : Int) ≤ (i : Int) + 1 := by omega
  have hh2 : (i : Int) + 1 ≤ (k : Int) := by omega
  have hij : ¬ ((i : Int) = (i : Int) + 1) := by omega
  clear hW1 b1 b2 b3 b4 b5 a1 a2 a3 a4 a5 hget hnews hnl hdl hat hgd hg ht hL hone
  go_enter Try.func45, Try.ntmps45
  go_wp2_with fail
  go_region_law (refine step_append_room rfl (.tmp 22) (.tmp 25) 35 rfl 30 ip 5 Try.underlying35 ip1 ip3 g 0 i rc (by simp [Act.eval, Act.put]) A (k - (i + 1)) (rc - (i + 1)) news (by simp [Act.eval, Act.put]) s1.out hsrc.out s2.out (by omega) s3.out ?_; rw [← hW.out])
  go_wp2
  go_ret
  exact ⟨by rw [HE1.out]; rfl, HO.out⟩
end Go.Proofs.Ytmjfbilhalkegaa
