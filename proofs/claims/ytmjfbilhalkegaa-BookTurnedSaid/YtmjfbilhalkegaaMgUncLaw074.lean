/- Texts that UncLaw07 stands on, one behind the other, part 4. Conditions: each theorem names its own. -/
import Derived.Test.YtmjfbilhalkegaaMgUncLaw073
import Derived.Deep.Slices
import Derived.OpenShut
/-! slices.Delete of one order out of a row of a side's own. No condition. -/
namespace Go.Proofs.Ytmjfbilhalkegaa
set_option linter.unusedVariables false
set_option linter.unusedSimpArgs false
open Go.RowKit

def pzo : Value := .agg zo
theorem zero_ord (w : World) : (zeroValue 30).run Try.prog w = .ok pzo w := by kernel_rfl
theorem pzo_one : ∀ v ∈ pzo.cells, v.oneCell' = true := by
  intro v hv
  have : v ∈ zo := hv
  simp only [zo, List.mem_toArray, List.mem_cons, List.not_mem_nil, or_false] at this
  rcases this with rfl | rfl | rfl | rfl | rfl <;> rfl
set_option maxHeartbeats 4000000 in
set_option maxRecDepth 100000 in
theorem delo_any (base k i : Nat) (L : Nat → Array Value) (ra : Option Addr) (rc : Nat) (w : World) (hL : ∀ j, (L j).size = 5) (hone : ∀ j, (L j).all (·.oneCell') = true) (ho : w.ownsRow base 30 5 (.slice ra k rc) k (flat L k)) (hi : i < k) :
    Calls Try.prog 45 #[.slice ra k rc, .int .i64 i, .int .i64 (i + 1)] w fun e w' => e = .returned (.slice ra (k - 1) rc) ∧ w'.ownsRow base 30 5 (.slice ra (k - 1) rc) (k - 1) (flat (rem L i) (k - 1)) ∧ Below base w w' ∧ (∀ b, some b ≠ (Value.slice ra k rc).ownBlock → w'.heap[b]? = w.heap[b]?) := by
  obtain ⟨_, ⟨h0, hk0⟩ | ⟨g, cap, cur, hv, hbg, hg, hn, hm, hc, ht⟩⟩ := ho
  · omega
  cases hv
  unfold maxLen at hm
  have hgd : w.drew.heap[g]? = some (.cells cur 30 (0, 0)) := hg
  have hdl : (flat L k).length = k * 5 := flatc_len hL k
  have hat : ∀ j, j < k * 5 → cur[j]? = (flat L k)[j]? := fun j hj => by
    rw [← ht, List.getElem?_take, if_pos hj, Array.getElem?_toList]
  obtain ⟨news, hnews⟩ : ∃ news, news = (flat L k).drop ((i + 1) * 5) := ⟨_, rfl⟩
  have hnl : news.length = (k - (i + 1)) * 5 := by rw [hnews, List.length_drop, hdl]; omega
  have hget : ∀ t, news[t]? = (flat L k)[(i + 1) * 5 + t]? := fun t => by rw [hnews, List.getElem?_drop]
  obtain ⟨A, hA, hsrc⟩ : ∃ A : Addr, (if rc = i + 1 then some (⟨g, 0, none⟩ : Addr) else some ⟨g, (i + 1) * 5, none⟩) = some A ∧ Hid (∀ t u, news[t]? = some u → w.drew.cell? (A.add t) = some u) := by
    by_cases h : rc = i + 1
    · refine ⟨⟨g, 0, none⟩, by simp [h], fun t u hu => ?_⟩
      have h0 : news.length = 0 := by rw [hnl]; omega
      rw [List.length_eq_zero_iff.1 h0] at hu
      simp at hu
    · refine ⟨⟨g, (i + 1) * 5, none⟩, by simp [h], fun t u hu => ?_⟩
      have hlt : t < news.length := (List.getElem?_eq_some_iff.1 hu).1
      have h2 : (⟨g, (i + 1) * 5, none⟩ : Addr).add t = ⟨g, (i + 1) * 5 + t, none⟩ := by unfold Addr.add; split <;> simp_all
      rw [h2, cellF hgd, hat _ (by omega), ← hget, hu]
  have s1 : Hid (news.length = (k - (i + 1)) * 5) := hnl
  have s2 : Hid (∀ u ∈ news, u.oneCell' = true) := fun u hu => flatc_one hone k u (by rw [hnews] at hu; exact List.mem_of_mem_drop hu)
  have s3 : Hid (∀ t, t < news.length → (w.drew.cell? ⟨g, 0 + i * 5 + t, none⟩).isSome = true ∧ w.drew.frozen? ⟨g, 0 + i * 5 + t, none⟩ = false) := by
    intro t htl
    have hlt : 0 + i * 5 + t < cur.size := by rw [hc]; omega
    exact ⟨by rw [cellF hgd, Array.getElem?_eq_getElem hlt]; rfl, (cells_of hgd).2.1 _⟩
  obtain ⟨W1, hW1⟩ : ∃ W1, W1 = w.drew.setCells g (0 + i * 5) news := ⟨_, rfl⟩
  obtain ⟨A1, a1, a2, a3, a4, a5⟩ := setc_block news (0 + i * 5) w.drew cur hgd (by omega)
  rw [← hW1] at a1
  obtain ⟨A2, b1, b2, b3, b4, b5⟩ := setc_block pzo.cells.toList ((k - 1) * 5) W1 A1 a1 (by rw [a2, hc, show pzo.cells.toList.length = 5 from rfl]; omega)
  have hcl : ∀ ty cc, (Builtin.clear_ #[35] ty #[.slice (some ⟨g, (k - 1) * 5, none⟩) 1 cc]).run Try.prog W1 = .ok (.tuple #[]) (W1.setCells g ((k - 1) * 5) pzo.cells.toList) :=
    fun ty cc => run_clear_one W1 _ _ ty pzo 5 Try.underlying35 zero_ord rfl pzo_one g ((k - 1) * 5) cc (fun j hj => by rw [cellF a1, Array.getElem?_eq_getElem (by rw [a2, hc]; omega)]; rfl) (fun j hj => (cells_of a1).2.1 _)
  have HO : Hid ((W1.setCells g ((k - 1) * 5) pzo.cells.toList).ownsRow base 30 5 (.slice (some ⟨g, 0, none⟩) (k - 1) rc) (k - 1) (flat (rem L i) (k - 1)) ∧ Below base w (W1.setCells g ((k - 1) * 5) pzo.cells.toList) ∧ (∀ b, some b ≠ (Value.slice (some ⟨g, 0, none⟩) k rc).ownBlock → (W1.setCells g ((k - 1) * 5) pzo.cells.toList).heap[b]? = w.heap[b]?)) := by
    refine ⟨⟨flatc_len (fun j => by unfold rem; split <;> exact hL _) _, .inr ⟨g, rc, A2, rfl, hbg, b1, by omega, hm, by rw [b2, a2, hc], ?_⟩⟩, ?_, fun b hb => ?_⟩
    · refine flat_rem (c := 5) (by omega) hL hi (by rw [b2, a2, hc]; omega) (fun j hj => ?_) (fun j h1 h2 => ?_)
      · rw [b3 j (by omega), a3 j (by omega), hat j (by omega)]
      · rw [b3 j (by omega), show j = 0 + i * 5 + (j - i * 5) by omega, a4 _ (by omega), hget]
        congr 1
        omega
    · rw [hW1]
      exact setc_below hbg _ _ _ (setc_below hbg _ _ _ (Below.drew (Below.refl _ _)))
    · have hne : b ≠ g := fun e => hb (by rw [e]; rfl)
      rw [setc_other hne, hW1, setc_other hne]
      rfl
  have hW : Hid (W1 = w.drew.setCells g (0 + i * 5) news) := hW1
  have e1 : i + (k - (i + 1)) = k - 1 := by omega
  have hcl' : ∀ ty cc, (Builtin.clear_ #[35] ty #[.slice (some ⟨g, (i + (k - (i + 1))) * 5, none⟩) (k - (i + (k - (i + 1)))) cc]).run Try.prog W1 = .ok (.tuple #[]) (W1.setCells g ((k - 1) * 5) pzo.cells.toList) := fun ty cc => by
    rw [e1, show k - (k - 1) = 1 by omega]
    exact hcl ty cc
  have HE1 := Lib.hid e1
  clear hcl e1
  generalize W1.setCells g ((k - 1) * 5) pzo.cells.toList = W2 at *
  obtain ⟨ip, zp, ip1, ip2, ip3, ip4, ip5⟩ := info_ord
  have hic : i ≤ rc := by omega
  have hjc : i + 1 ≤ rc := by omega
  have hh1 : (0 : Int) ≤ (i : Int) + 1 := by omega
  have hh2 : (i : Int) + 1 ≤ (k : Int) := by omega
  have hij : ¬ ((i : Int) = (i : Int) + 1) := by omega
  clear hW1 b1 b2 b3 b4 b5 a1 a2 a3 a4 a5 hget hnews hnl hdl hat hgd hg ht hL hone
  go_enter Try.func45, Try.ntmps45
  go_wp2_with fail
  go_region_law (refine step_append_room rfl (.tmp 22) (.tmp 25) 35 rfl 30 ip 5 Try.underlying35 ip1 ip3 g 0 i rc (by simp [Act.eval, Act.put]) A (k - (i + 1)) (rc - (i + 1)) news (by simp [Act.eval, Act.put]) s1.out hsrc.out s2.out (by omega) s3.out ?_; rw [← hW.out])
  go_wp2
  go_ret
  exact ⟨by rw [HE1.out]; rfl, HO.out⟩
end Go.Proofs.Ytmjfbilhalkegaa
/-! What a struct that came in holds, cell by cell. No condition. -/
namespace Go.Proofs.Ytmjfbilhalkegaa
set_option linter.unusedVariables false
set_option linter.unusedSimpArgs false
open Go.RowKit Go.Deep

section
variable {H : Type} {enc : TypeId × Value → H} {w : World} {base : Nat} {spare : Nat → Bool} {held : Bool}

theorem leaf {fuel o : Nat} {t : TypeId} {k : IntKind} {cs : List Value} {x : DataW H × List MemPlace} (hu : Try.prog.underlying t = some (.int k)) (hc : Try.prog.cellsOf t = 1)
    (h : DataW.trod enc Try.prog w base spare held fuel t ((cs.drop o).take (Try.prog.cellsOf t)) = some x) : IsN cs.toArray k o := by
  obtain ⟨n, h1, _, hw⟩ := DataW.trod_int hu h
  rw [hc] at h1
  have h2 := congrArg (fun l => l[0]?) h1
  simp [List.getElem?_take, List.getElem?_drop] at h2
  exact IsN_of (by simpa using h2) (by simpa [Lit.wf] using hw)
theorem fields {fuel : Nat} {t : TypeId} {fs : Array Field} {cs : List Value} {x : DataW H × List MemPlace} (ht : Try.prog.underlying t = some (.struct fs)) (h : DataW.trod enc Try.prog w base spare held fuel t cs = some x) :
    cs.length = Try.prog.cellsOf t ∧ ∃ n, ∀ (i : Nat) (f : Field), fs[i]? = some f → ∃ y, DataW.trod enc Try.prog w base spare held n f.type ((cs.drop f.offset).take (Try.prog.cellsOf f.type)) = some y := by
  obtain ⟨xs, n, _, _, hl, hxl, hx⟩ := DataW.trod_struct ht h
  refine ⟨hl, n, fun i f hf => ?_⟩
  have hi : i < xs.length := by rw [hxl]; exact (Array.getElem?_eq_some_iff.1 hf).1
  exact ⟨xs[i], by rw [hx i f hf]; exact List.getElem?_eq_getElem hi⟩
theorem drop_at {cs : List Value} {o c i : Nat} (h : i < c) : ((cs.drop o).take c).toArray[i]? = cs.toArray[o + i]? := by
  simp [List.getElem?_take, List.getElem?_drop, h]
theorem IsN.moved {A B : Array Value} {i j : Nat} {k : IntKind} (h : IsN A k i) (e : A[i]? = B[j]?) : IsN B k j := by
  obtain ⟨h1, h2⟩ := h
  exact IsN_of (by rw [← e]; exact h1) h2

end
end Go.Proofs.Ytmjfbilhalkegaa
/-! A side's row, written in place and shortened; Fill. Condition: the side is one. -/
namespace Go.Proofs.Ytmjfbilhalkegaa
set_option linter.unusedVariables false
set_option linter.unusedSimpArgs false
open Go.RowKit

theorem flat_set {L : Nat → Array Value} {c : Nat} (hL : ∀ i, (L i).size = c) (u : Value) : ∀ n i j, i < n → j < c → (flat L n).set (i * c + j) u = flat (fun r => if r = i then (L r).setIfInBounds j u else L r) n
  | 0, i, j, hi, _ => by omega
  | n + 1, i, j, hi, hj => by
    have hl := flatc_len hL n
    rw [flat, flat]
    by_cases e : i = n
    · subst e
      rw [List.set_append_right _ _ (by omega), hl, show i * c + j - i * c = j by omega, if_pos rfl, flat_congr (L := fun r => if r = i then (L r).setIfInBounds j u else L r) (L' := L) i (fun r hr => by rw [if_neg (by omega)])]
      simp
    · have h1 := mul_in (n := n) (c := c) (i := i) (j := j) (by omega) hj
      rw [List.set_append_left _ _ (by omega), flat_set hL u n i j (by omega) hj, if_neg (Ne.symm e)]
/-- where the order at i lies -/
def SRow (w : World) (g k : Nat) (buy : Bool) (L : Nat → Array Value) (gb rc : Nat) (A : Array Value) : Prop :=
  w.heap[g]? = some (.cells #[.bool true, .bool buy, .slice (some ⟨gb, 0, none⟩) k rc] 77 (0, 0)) ∧ w.heap[gb]? = some (.cells A 30 (0, 0)) ∧ (∀ i, i < k → i * 5 + 5 ≤ A.size ∧ A.extract (i * 5) (i * 5 + 5) = L i)
theorem SideIs.at_row {w : World} {g base k : Nat} {buy : Bool} {L : Nat → Array Value} (h : SideIs w g base k buy L) (hk : 0 < k) : ∃ gb rc A, SRow w g k buy L gb rc A ∧ base ≤ gb ∧ A.size = rc * 5 ∧ k ≤ rc ∧ rc ≤ 9223372036854775807 ∧ A.toList.take (k * 5) = flat L k := by
  obtain ⟨v, hg, hrow⟩ := h.row
  obtain ⟨_, ⟨rfl, h0⟩ | ⟨gb, cap, cur, rfl, hbb, hgb, hn, hm, hc, ht⟩⟩ := id hrow
  · omega
  · refine ⟨gb, cap, cur, ⟨hg, hgb, fun i hi => ?_⟩, hbb, hc, hn, by unfold maxLen at hm; omega, ht⟩
    obtain ⟨ra, rc, he, hR, _⟩ := own_rows (c := 5) (fun i => (h.ord i).size) hrow
    cases he
    obtain ⟨g2, off, A, fr, ha, hgA, hs, hx⟩ := hR i hi
    cases ha
    rw [hgb] at hgA
    cases hgA
    rw [Nat.zero_add] at hs hx
    exact ⟨hs, hx⟩
theorem SRow.kept {w w' : World} {g k : Nat} {buy : Bool} {L : Nat → Array Value} {gb rc : Nat} {A : Array Value} (h : SRow w g k buy L gb rc A) (hb : Below w.heap.size w w') : SRow w' g k buy L gb rc A := ⟨Ytmjfbilhalkegaa.kept hb h.1, Ytmjfbilhalkegaa.kept hb h.2.1, h.2.2⟩
theorem SRow.cell {w : World} {g k : Nat} {buy : Bool} {L : Nat → Array Value} {gb rc : Nat} {A : Array Value} (h : SRow w g k buy L gb rc A) {i j : Nat} (hi : i < k) (hj : j < 5) : A[i * 5 + j]? = (L i)[j]? := by
  obtain ⟨h1, h2⟩ := h.2.2 i hi
  rw [← h2, Array.getElem?_extract, if_pos (by omega)]
theorem SRow.ne {w : World} {g k : Nat} {buy : Bool} {L : Nat → Array Value} {gb rc : Nat} {A : Array Value} (h : SRow w g k buy L gb rc A) : g ≠ gb := fun e => by
  have h1 := h.1; have h2 := h.2.1; rw [e, h2] at h1; injection h1 with h1; injection h1 with _ h1; exact absurd h1 (by decide)
/-- the same orders, but i has y left -/
def lo (L : Nat → Array Value) (i : Nat) (y : Int) : Nat → Array Value := fun r => if r = i then (L r).setIfInBounds 4 (.int .i64 y) else L r
theorem ord_lo {A : Array Value} {y : Int} (h : IsOrd A) (hy : F64 y) : IsOrd (A.setIfInBounds 4 (.int .i64 y)) := by
  have hs := h.size
  have m : ∀ {k : IntKind} {i : Nat}, i ≠ 4 → IsN A k i → IsN (A.setIfInBounds 4 (.int .i64 y)) k i := fun hi hN => hN.moved (by rw [Array.getElem?_setIfInBounds_ne (Ne.symm hi)])
  refine ⟨by simp [hs], m (by decide) h.n, m (by decide) h.a, ?_, m (by decide) h.p, IsN_of (by rw [Array.getElem?_setIfInBounds_self, if_pos (by omega)]) hy⟩
  have := h.b
  exact IsB_of (by rw [Array.getElem?_setIfInBounds_ne (by omega)]; exact this)
/-- every block but g and the row that g has stays -/
def Kf (g : Nat) (A B : World) : Prop := ∀ v b, A.heap[g]? = some (.cells #[.bool true, .bool b, v] 77 (0, 0)) → ∀ i, i ≠ g → some i ≠ v.ownBlock → i < A.heap.size → B.heap[i]? = A.heap[i]?
theorem Kf.of {g : Nat} {A B : World} {v : Value} {b : Bool} (hg : A.heap[g]? = some (.cells #[.bool true, .bool b, v] 77 (0, 0))) (h : ∀ i, i ≠ g → some i ≠ v.ownBlock → i < A.heap.size → B.heap[i]? = A.heap[i]?) : Kf g A B := fun v' b' h' => by
  rw [hg] at h'
  have e : v = v' := by simp at h'; exact h'.2
  subst e
  exact h
theorem Kf.new {w B : World} {g base k : Nat} {buy : Bool} {L : Nat → Array Value} {o : Obj} (h : SideIs w g base k buy L) (hk : Kf g (w.alloc o) B) : B.heap[w.heap.size]? = some o := by
  obtain ⟨v, hg, hrow⟩ := h.row
  have hlt := (cells_of hg).2.2
  refine (hk v buy (heap_up hg) w.heap.size (by omega) (fun e => ?_) (by simp)).trans (heap_alloc_new w o)
  obtain ⟨A, fr, h9⟩ := own_tag hrow _ e.symm
  have := (Array.getElem?_eq_some_iff.1 h9).1
  omega
theorem side_set {w w1 : World} {g base k i : Nat} {buy : Bool} {L : Nat → Array Value} {gb rc : Nat} {A : Array Value} {y : Int} (h : SideIs w g base k buy L) (hA : SRow w g k buy L gb rc A) (hbb : base ≤ gb) (hsz : A.size = rc * 5) (hkr : k ≤ rc) (hrc : rc ≤ 9223372036854775807) (htk : A.toList.take (k * 5) = flat L k)
    (hi : i < k) (hy : F64 y) (hb1 : Below w.heap.size w w1) : SideIs (w1.setCell ⟨gb, i * 5 + 4, none⟩ (.int .i64 y)) g base k buy (lo L i y) ∧ Below base w (w1.setCell ⟨gb, i * 5 + 4, none⟩ (.int .i64 y)) ∧ Ko g w (w1.setCell ⟨gb, i * 5 + 4, none⟩ (.int .i64 y)) ∧ Kf g w (w1.setCell ⟨gb, i * 5 + 4, none⟩ (.int .i64 y)) := by
  have hA1 := hA.kept hb1
  have hbw : base ≤ w.heap.size := by have := (Array.getElem?_eq_some_iff.1 hA.2.1).1; omega
  have hgb := hA.ne
  have hown : w1.ownsRow base 30 5 (.slice (some ⟨gb, 0, none⟩) k rc) k (flat L k) := ⟨flatc_len (fun i => (h.ord i).size) k, .inr ⟨gb, rc, A, rfl, hbb, hA1.2.1, hkr, by unfold maxLen; omega, hsz, htk⟩⟩
  refine ⟨⟨⟨_, heap_set_other hA1.1 hgb, ?_⟩, fun r => ?_, h.bg, h.hk⟩, below_set (hb1.mono hbw) hbb, fun j o ho hj hw => ?_, Kf.of hA.1 fun j hj hne hlt => ?_⟩
  · have hst := hown.stored (i * 5 + 4) (.int .i64 y)
    rw [flat_set (c := 5) (fun i => (h.ord i).size) _ k i 4 hi (by omega)] at hst
    exact hst.1
  · unfold lo
    split
    · exact ord_lo (h.ord r) hy
    · exact h.ord r
  · have hne : j ≠ gb := fun e => by
      subst e; rw [hA.2.1] at hw; exact ho _ _ (Option.some.inj hw).symm
    exact heap_set_other (Ytmjfbilhalkegaa.kept hb1 hw) hne
  · have hjb : j ≠ gb := fun e => hne (by rw [e]; rfl)
    rw [heap_setCell_other w1 ⟨gb, i * 5 + 4, none⟩ j _ hjb]
    exact hb1.block j hlt
theorem side_shrunk {w w1 w5 : World} {g base k i : Nat} {buy : Bool} {L : Nat → Array Value} {v v5 : Value} (hS : SideIs w g base k buy L) (hg : w.heap[g]? = some (.cells #[.bool true, .bool buy, v] 77 (0, 0)))
    (hB : Below w.heap.size w w1) (hoq : w1.ownsRow base 30 5 v k (flat L k)) (hoth : ∀ b, some b ≠ v.ownBlock → w5.heap[b]? = w1.heap[b]?) (hb5 : Below base w1 w5) (ho5 : w5.ownsRow base 30 5 v5 (k - 1) (flat (rem L i) (k - 1))) :
    w5.heap[g]? = some (.cells #[.bool true, .bool buy, v] 77 (0, 0)) ∧ SideIs (w5.setCell ⟨g, 2, none⟩ v5) g base (k - 1) buy (rem L i) ∧ Below base w (w5.setCell ⟨g, 2, none⟩ v5) ∧ Ko g w (w5.setCell ⟨g, 2, none⟩ v5) ∧ Kf g w (w5.setCell ⟨g, 2, none⟩ v5) := by
  have hg1 := Ytmjfbilhalkegaa.kept hB hg
  have hne : some g ≠ v.ownBlock := fun e => by
    obtain ⟨A9, fr9, h9⟩ := own_tag hoq g e.symm
    rw [hg1] at h9; injection h9 with h9; injection h9 with _ h9; exact absurd h9 (by decide)
  have hgw : g < w.heap.size := (Array.getElem?_eq_some_iff.1 hg).1
  have hgq5 := (hoth g hne).trans hg1
  have hbg := hS.bg
  have hk := hS.hk
  refine ⟨hgq5, ⟨⟨v5, heap_set (i := 2) (v := v5) hgq5, ?_⟩, fun j => ?_, hbg, by omega⟩, ?_, fun i o ho hi hw => ?_, Kf.of hg fun j hj hne hlt => ?_⟩
  · refine ownsRow_setCell_other ho5 (fun e => ?_) _
    obtain ⟨A, fr, h⟩ := own_tag ho5 _ e
    rw [show w5.heap[(⟨g, 2, none⟩ : Addr).block]? = w5.heap[g]? from rfl, hgq5] at h
    injection h with h; injection h with _ h; exact absurd h (by decide)
  · unfold rem
    split <;> exact hS.ord _
  · exact below_set ((hB.mono (by omega)).trans hb5) hbg
  · have hw1 := Ytmjfbilhalkegaa.kept hB hw
    have h5 := (hoth i (fun e => by
      obtain ⟨A9, fr9, h9⟩ := own_tag hoq i e.symm
      rw [hw1] at h9; exact ho A9 fr9 (Option.some.inj h9))).trans hw1
    exact (heap_setCell_other w5 ⟨g, 2, none⟩ i v5 hi).trans h5
  · exact ((heap_setCell_other w5 ⟨g, 2, none⟩ j v5 hj).trans (hoth j hne)).trans (hB.block j hlt)
end Go.Proofs.Ytmjfbilhalkegaa
/-! Best of a side that has orders. Condition: the side is one. -/
namespace Go.Proofs.Ytmjfbilhalkegaa
set_option linter.unusedVariables false
set_option linter.unusedSimpArgs false
open Go.RowKit

set_option maxRecDepth 100000 in
theorem sbest_yes {w : World} {g base k : Nat} {buy : Bool} {L : Nat → Array Value} (h : SideIs w g base k buy L) (hk : 0 < k) : Calls Try.prog 40 #[.pointer (some ⟨g, 0, none⟩)] w fun e w' => e = .returned (.tuple #[.agg (L 0), .bool true]) ∧ Below w.heap.size w w' := by
  have hb := below_new w (Obj.cells zo 30)
  have hc := heap_alloc_new w (Obj.cells zo 30)
  have h1 := h.kept hb
  have cr := sready_yes h1
  obtain ⟨v, hg, hrow⟩ := h1.row
  obtain ⟨ra, rc, rfl, hR, hkr, hrc, _⟩ := own_rows (c := 5) (fun i => (h1.ord i).size) hrow
  obtain ⟨gb, off, A, fr, rfl, hgA, hszA, hexA⟩ := hR 0 hk
  have cg := cellF hg
  have HA := Lib.hid hgA
  have HZ := Lib.hid zo_size
  have HM := Lib.hid (h.ord 0).size
  have HMa := Lib.hid (h.ord 0).all
  have HX := Lib.hid (show A.extract off (off + 5) = L 0 by simpa using hexA)
  have HS := Lib.hid (show off + 5 ≤ A.size by omega)
  clear hexA hszA hR hrow h1 h hgA
  generalize L 0 = M at *
  have hk0 : ¬ (k : Int) = 0 := by omega
  have hk1 : (0 : Int) < k := by omega
  go_enter Try.func40, Try.ntmps40
  go_wp2_with (first | ((with_reducible refine at_alloc 30 ?_); refine wpList_alloc_named rfl 30 rfl zo (by kernel_rfl) ?_) | (go_at_call 39; (with_reducible refine (cr).mono ?_); rintro e w1 ⟨rfl, rfl⟩) | ((with_reducible refine at_load 30 ?_); refine wpList_load_part rfl 30 _ rfl (gb) (off) rfl _ (A) _ _ 5 (HA.out) Try.underlying30 rfl (by kernel_rfl) (by have := HS.out; omega) (M) (HX.out) ?_) | ((with_reducible refine at_store 30 ?_); refine wpList_store_over rfl 30 _ _ rfl (w.heap.size) (M) rfl rfl _ _ (hc) (by rw [HM.out]; kernel_rfl) (by rw [HM.out]; rfl) (HMa.out) ?_; intro w3 hg3 hs3 ho3 hb3))
  exact post_cell_tmp (g := w.heap.size) (t := 30) (v := .bool true) rfl rfl rfl rfl hg3 Try.underlying30 rfl (by rw [HM.out]; kernel_rfl) ⟨rfl, hb.trans (hb3 _ (Nat.le_refl _))⟩
end Go.Proofs.Ytmjfbilhalkegaa
/-! Fill of a side that has orders. Condition: the side is one. -/
namespace Go.Proofs.Ytmjfbilhalkegaa
set_option linter.unusedVariables false
set_option linter.unusedSimpArgs false
open Go.RowKit

set_option maxRecDepth 100000 in
set_option maxHeartbeats 2000000 in
theorem sfill_some {w : World} {g base k : Nat} {buy : Bool} {L : Nat → Array Value} (n : Int) (h : SideIs w g base k buy L) (hk : 0 < k) (hn1 : 1 ≤ n) (hn2 : n < N (L 0) 4) :
    Calls Try.prog 42 #[.pointer (some ⟨g, 0, none⟩), .int .i64 n] w fun e w' => e = .returned (.tuple #[.agg (lo L 0 (N (L 0) 4 - n) 0), .int .i64 0]) ∧ SideIs w' g base k buy (lo L 0 (N (L 0) 4 - n)) ∧ Below base w w' ∧ Ko g w w' ∧ Kf g w w' := by
  obtain ⟨gb, rc, A, hA, hbb, hsz, hkr, hrc, htk⟩ := h.at_row hk
  have hb0 := below_new w (Obj.cells zo 30)
  have hA0 := hA.kept hb0
  have hg0 := cellF hA0.1
  have ha0 := cellF hA0.2.1
  have hf0 := (cells_of hA0.2.1).2.1
  have hx4 := (h.ord 0).l
  have hc4 := hA.cell (i := 0) (j := 4) hk (by omega)
  rw [hx4.1] at hc4
  have hwf : F64 (N (L 0) 4) := hx4.2
  obtain ⟨hw1, hw2⟩ := hwf
  have hst := side_set (i := 0) (y := N (L 0) 4 - n) h hA hbb hsz hkr hrc htk hk ⟨by omega, by omega⟩ (Below.refl _ w)
  rw [show 0 * 5 + 4 = 4 from rfl] at hst hc4
  have hszS : (w.setCell ⟨gb, 4, none⟩ (.int .i64 (N (L 0) 4 - n))).heap.size = w.heap.size := by simp [World.setCell]
  obtain ⟨gb2, rc2, A2, hA2, hbb2, hsz2, hkr2, hrc2, htk2⟩ := hst.1.at_row hk
  have e2 : gb2 = gb ∧ rc2 = rc := by
    have h1 := hA2.1
    rw [heap_set_other hA.1 hA.ne] at h1
    simp at h1
    exact ⟨h1.1.symm, h1.2.symm⟩
  obtain ⟨rfl, rfl⟩ := e2
  have hbz := below_new (w.setCell ⟨gb2, 4, none⟩ (.int .i64 (N (L 0) 4 - n))) (Obj.cells zo 30)
  have hA3 := hA2.kept hbz
  have hg3 := cellF hA3.1
  have ha3 := cellF hA3.2.1
  have hz3 := heap_alloc_new (w.setCell ⟨gb2, 4, none⟩ (.int .i64 (N (L 0) 4 - n))) (Obj.cells zo 30)
  have hM := hst.1.ord 0
  have hM4 : (lo L 0 (N (L 0) 4 - n) 0)[4]? = some (.int .i64 (N (L 0) 4 - n)) := by
    unfold lo; rw [if_pos rfl, Array.getElem?_setIfInBounds_self, if_pos (by rw [(h.ord 0).size]; omega)]
  have cr := sready_yes (h.kept hb0)
  have hgu : gb2 < w.heap.size := (cells_of hA.2.1).2.2
  have HX3 := Lib.hid (hA3.2.2 0 hk)
  have HG3 := Lib.hid hA3.2.1
  have HFIN := Lib.hid hst
  have HM := Lib.hid hM.size
  have HMa := Lib.hid hM.all
  have HZ := Lib.hid zo_size
  have hk0 : ¬ (k : Int) = 0 := by omega
  have hk1 : (0 : Int) < k := by omega
  have hA2g := hA2
  clear hA hA0 hx4 htk hst hM hA3 hA2 hA2g htk2
  generalize hx : N (L 0) 4 = x at *
  generalize lo L 0 (x - n) 0 = M at *
  clear hx
  have hm1 : (((w.setCell ⟨gb2, 4, none⟩ (.int .i64 (x - n))).alloc (Obj.cells zo 30)).alloc (Obj.cells M 30)).heap[w.heap.size + 1]? = some (.cells M 30 (0, 0)) := by
    have := heap_alloc_new ((w.setCell ⟨gb2, 4, none⟩ (.int .i64 (x - n))).alloc (Obj.cells zo 30)) (Obj.cells M 30)
    rwa [show ((w.setCell ⟨gb2, 4, none⟩ (.int .i64 (x - n))).alloc (Obj.cells zo 30)).heap.size = w.heap.size + 1 by simp [hszS]] at this
  have hz4 : (((w.setCell ⟨gb2, 4, none⟩ (.int .i64 (x - n))).alloc (Obj.cells zo 30)).alloc (Obj.cells M 30)).heap[w.heap.size]? = some (.cells zo 30 (0, 0)) := by
    rw [hszS] at hz3
    exact heap_up hz3
  have HB4 := Lib.hid (below_alloc (below_new (w.setCell ⟨gb2, 4, none⟩ (.int .i64 (x - n))) (Obj.cells zo 30)) (Obj.cells M 30))
  have HMX := Lib.hid (show M.extract 0 (0 + 5) = M by rw [show 0 + 5 = M.size by rw [HM.out]]; simp)
  have hn3 : ¬ n < 1 := by omega
  have hn4 : ¬ x < n := by omega
  have hn5 : ¬ x - n = 0 := by omega
  have hne : gb2 ≠ w.heap.size := by omega
  go_enter Try.func42, Try.ntmps42
  go_wp2_with (first | ((with_reducible refine at_alloc 30 ?_); refine wpList_alloc_named rfl 30 rfl zo (by kernel_rfl) ?_) | (go_at_call 39; (with_reducible refine (cr).mono ?_); rintro e w1 ⟨rfl, rfl⟩) | ((with_reducible refine at_load 30 ?_); refine wpList_load_part rfl 30 _ rfl (gb2) (0) rfl _ (A2) _ _ 5 (HG3.out) Try.underlying30 rfl (by kernel_rfl) (by have := HX3.out.1; omega) (M) (by have := HX3.out.2; simpa using this) ?_) | ((with_reducible refine at_store 30 ?_); refine wpList_store_new rfl 30 _ _ rfl (M) _ _ _ rfl (by simp) rfl (by rw [HM.out]; kernel_rfl) (by rw [HM.out]; rfl) (HMa.out) ?_) | ((with_reducible refine at_load 30 ?_); refine wpList_load_part rfl 30 _ rfl (w.heap.size + 1) (0) rfl _ (M) _ _ 5 (hm1) Try.underlying30 rfl (by kernel_rfl) (by rw [HM.out]; omega) (M) (HMX.out) ?_) | ((with_reducible refine at_store 30 ?_); refine wpList_store_over rfl 30 _ _ rfl (w.heap.size) (M) rfl rfl _ _ (hz4) (by rw [HM.out]; kernel_rfl) (by rw [HM.out]; rfl) (HMa.out) ?_; intro w3 hg5 hs5 ho5 hb5))
  have hfr : ∀ j c t fr, j < w.heap.size → (w.setCell ⟨gb2, 4, none⟩ (.int .i64 (x - n))).heap[j]? = some (.cells c t fr) → w3.heap[j]? = some (.cells c t fr) := fun j c t fr hj h => (ho5 j (by omega)).trans (Ytmjfbilhalkegaa.kept HB4.out h)
  have hB5 : Below (w.setCell ⟨gb2, 4, none⟩ (.int .i64 (x - n))).heap.size (w.setCell ⟨gb2, 4, none⟩ (.int .i64 (x - n))) w3 := HB4.out.trans (hb5 _ (by omega))
  obtain ⟨f1, f2, f3, f4⟩ := HFIN.out
  have hbg := f1.bg
  obtain ⟨_, hgr, _⟩ := f1.row
  have hgl := (cells_of hgr).2.2
  refine post_cell_tmp (g := w.heap.size) (t := 30) (v := .int .i64 0) rfl rfl rfl rfl hg5 Try.underlying30 rfl (by rw [HM.out]; kernel_rfl) ⟨rfl, f1.kept hB5, f2.trans (hB5.mono (by omega)), f3.trans (ko_below hB5), fun v b hv i hi hne hlt => (hB5.block i (by omega)).trans (f4 v b hv i hi hne hlt)⟩
set_option maxRecDepth 100000 in
set_option maxHeartbeats 2000000 in
theorem sfill_all {w : World} {g base k : Nat} {buy : Bool} {L : Nat → Array Value} (h : SideIs w g base k buy L) (hk : 0 < k) (hn1 : 1 ≤ N (L 0) 4) :
    Calls Try.prog 42 #[.pointer (some ⟨g, 0, none⟩), .int .i64 (N (L 0) 4)] w fun e w' => e = .returned (.tuple #[.agg (lo L 0 0 0), .int .i64 0]) ∧ SideIs w' g base (k - 1) buy (rem L 0) ∧ Below base w w' ∧ Ko g w w' ∧ Kf g w w' := by
  obtain ⟨gb, rc, A, hA, hbb, hsz, hkr, hrc, htk⟩ := h.at_row hk
  have hb0 := below_new w (Obj.cells zo 30)
  have hA0 := hA.kept hb0
  have hg0 := cellF hA0.1
  have ha0 := cellF hA0.2.1
  have hf0 := (cells_of hA0.2.1).2.1
  have hx4 := (h.ord 0).l
  have hc4 := hA.cell (i := 0) (j := 4) hk (by omega)
  rw [hx4.1] at hc4
  have hwf : F64 (N (L 0) 4) := hx4.2
  obtain ⟨hw1, hw2⟩ := hwf
  have hst := side_set (i := 0) (y := 0) h hA hbb hsz hkr hrc htk hk ⟨by omega, by omega⟩ (Below.refl _ w)
  rw [show 0 * 5 + 4 = 4 from rfl] at hst hc4
  have hszS : (w.setCell ⟨gb, 4, none⟩ (.int .i64 0)).heap.size = w.heap.size := by simp [World.setCell]
  obtain ⟨gb2, rc2, A2, hA2, hbb2, hsz2, hkr2, hrc2, htk2⟩ := hst.1.at_row hk
  have e2 : gb2 = gb ∧ rc2 = rc := by
    have h1 := hA2.1
    rw [heap_set_other hA.1 hA.ne] at h1
    simp at h1
    exact ⟨h1.1.symm, h1.2.symm⟩
  obtain ⟨rfl, rfl⟩ := e2
  have hbz := below_new (w.setCell ⟨gb2, 4, none⟩ (.int .i64 0)) (Obj.cells zo 30)
  have hA3 := hA2.kept hbz
  have hg3 := cellF hA3.1
  have ha3 := cellF hA3.2.1
  have hz3 := heap_alloc_new (w.setCell ⟨gb2, 4, none⟩ (.int .i64 0)) (Obj.cells zo 30)
  have hM := hst.1.ord 0
  have hM4 : (lo L 0 0 0)[4]? = some (.int .i64 0) := by
    unfold lo; rw [if_pos rfl, Array.getElem?_setIfInBounds_self, if_pos (by rw [(h.ord 0).size]; omega)]
  have cr := sready_yes (h.kept hb0)
  have hgu : gb2 < w.heap.size := (cells_of hA.2.1).2.2
  have HX3 := Lib.hid (hA3.2.2 0 hk)
  have HG3 := Lib.hid hA3.2.1
  have HFIN := Lib.hid hst
  have HM := Lib.hid hM.size
  have HMa := Lib.hid hM.all
  have HZ := Lib.hid zo_size
  have hk0 : ¬ (k : Int) = 0 := by omega
  have hk1 : (0 : Int) < k := by omega
  have HOW := Lib.hid (show (w.setCell ⟨gb2, 4, none⟩ (.int .i64 0)).ownsRow base 30 5 (.slice (some ⟨gb2, 0, none⟩) k rc2) k (flat (lo L 0 0) k) from ⟨flatc_len (fun i => (hst.1.ord i).size) k, .inr ⟨gb2, rc2, A2, rfl, hbb2, hA2.2.1, hkr2, by unfold maxLen; omega, hsz2, htk2⟩⟩)
  have HREM := Lib.hid (show rem (lo L 0 0) 0 = rem L 0 from funext fun r => by unfold rem lo; rw [if_neg (by omega), if_neg (by omega), if_neg (by omega)])
  have HOS := Lib.hid hst.1.ord
  have HAG := Lib.hid hA2.1
  have HGW := Lib.hid hA.1
  have HNE := Lib.hid hA2.ne
  have hA2g := hA2
  clear hA hA0 hx4 htk hst hM hA3 hA2 hA2g htk2
  generalize hx : N (L 0) 4 = x at *
  generalize hLS : lo L 0 0 = LS at *
  generalize hM0 : LS 0 = M at *
  clear hLS hM0
  clear hx
  have hm1 : (((w.setCell ⟨gb2, 4, none⟩ (.int .i64 0)).alloc (Obj.cells zo 30)).alloc (Obj.cells M 30)).heap[w.heap.size + 1]? = some (.cells M 30 (0, 0)) := by
    have := heap_alloc_new ((w.setCell ⟨gb2, 4, none⟩ (.int .i64 0)).alloc (Obj.cells zo 30)) (Obj.cells M 30)
    rwa [show ((w.setCell ⟨gb2, 4, none⟩ (.int .i64 0)).alloc (Obj.cells zo 30)).heap.size = w.heap.size + 1 by simp [hszS]] at this
  have hz4 : (((w.setCell ⟨gb2, 4, none⟩ (.int .i64 0)).alloc (Obj.cells zo 30)).alloc (Obj.cells M 30)).heap[w.heap.size]? = some (.cells zo 30 (0, 0)) := by
    rw [hszS] at hz3
    exact heap_up hz3
  have HB4 := Lib.hid (below_alloc (below_new (w.setCell ⟨gb2, 4, none⟩ (.int .i64 0)) (Obj.cells zo 30)) (Obj.cells M 30))
  have HMX := Lib.hid (show M.extract 0 (0 + 5) = M by rw [show 0 + 5 = M.size by rw [HM.out]]; simp)
  have cd : Calls Try.prog 45 #[.slice (some ⟨gb2, 0, none⟩) k rc2, .int .i64 0, .int .i64 1] (((w.setCell ⟨gb2, 4, none⟩ (.int .i64 0)).alloc (Obj.cells zo 30)).alloc (Obj.cells M 30)) _ := delo_any base k 0 LS (some ⟨gb2, 0, none⟩) rc2 (((w.setCell ⟨gb2, 4, none⟩ (.int .i64 0)).alloc (Obj.cells zo 30)).alloc (Obj.cells M 30)) (fun j => (HOS.out j).size) (fun j => (HOS.out j).all) (own_below HB4.out HOW.out) hk
  have CD := Lib.hid cd
  have hgg : g < w.heap.size := by
    have := (cells_of HAG.out).2.2
    omega
  have hgD := cellF (Ytmjfbilhalkegaa.kept HB4.out HAG.out)
  clear cd
  have hn3 : ¬ x < 1 := by omega
  have hne : gb2 ≠ w.heap.size := by omega
  go_enter Try.func42, Try.ntmps42
  go_wp2_with (first | ((with_reducible refine at_alloc 30 ?_); refine wpList_alloc_named rfl 30 rfl zo (by kernel_rfl) ?_) | (go_at_call 39; (with_reducible refine (cr).mono ?_); rintro e w1 ⟨rfl, rfl⟩) | ((with_reducible refine at_load 30 ?_); refine wpList_load_part rfl 30 _ rfl (gb2) (0) rfl _ (A2) _ _ 5 (HG3.out) Try.underlying30 rfl (by kernel_rfl) (by have := HX3.out.1; omega) (M) (by have := HX3.out.2; simpa using this) ?_) | ((with_reducible refine at_store 30 ?_); refine wpList_store_new rfl 30 _ _ rfl (M) _ _ _ rfl (by simp) rfl (by rw [HM.out]; kernel_rfl) (by rw [HM.out]; rfl) (HMa.out) ?_) | (go_at_call 45; (with_reducible refine (CD.out).mono ?_); rintro e w5 ⟨rfl, ho5, hb5, hoth⟩; have hsh := side_shrunk HFIN.out.1 HAG.out HB4.out (own_below HB4.out HOW.out) hoth hb5 ho5; have cg5 := cellF hsh.1; have fg5 := (cells_of hsh.1).2.1; have hm6 := heap_set_other (g := g) (i := 2) (v := Value.slice (some ⟨gb2, 0, none⟩) (k - 1) rc2) ((hoth (w.heap.size + 1) (by simp [Value.ownBlock]; omega)).trans hm1) (by omega); have hz6 := heap_set_other (g := g) (i := 2) (v := Value.slice (some ⟨gb2, 0, none⟩) (k - 1) rc2) ((hoth w.heap.size (by simp [Value.ownBlock]; omega)).trans hz4) (by omega)) | ((with_reducible refine at_load 30 ?_); refine wpList_load_part rfl 30 _ rfl (w.heap.size + 1) (0) rfl _ (M) _ _ 5 (hm6) Try.underlying30 rfl (by kernel_rfl) (by rw [HM.out]; omega) (M) (HMX.out) ?_) | ((with_reducible refine at_store 30 ?_); refine wpList_store_over rfl 30 _ _ rfl (w.heap.size) (M) rfl rfl _ _ (hz6) (by rw [HM.out]; kernel_rfl) (by rw [HM.out]; rfl) (HMa.out) ?_; intro w3 hg5 hs5 ho6 hb6))
  have hB6 := hb6 _ (Nat.le_refl _)
  obtain ⟨hsh1, f1, f2, f3, f4⟩ := hsh
  rw [HREM.out] at f1
  obtain ⟨p1, p2, p3, p4⟩ := HFIN.out
  have hbg := f1.bg
  obtain ⟨vr, hgr, hrow⟩ := f1.row
  have hvr : vr = .slice (some ⟨gb2, 0, none⟩) (k - 1) rc2 := by
    have := heap_set (i := 2) (v := Value.slice (some ⟨gb2, 0, none⟩) (k - 1) rc2) hsh1
    rw [hgr] at this
    simpa using this
  have hF1 : SideIs w3 g base (k - 1) buy (rem L 0) := ⟨⟨vr, (ho6 g (by omega)).trans hgr, hrow.kept (row := some w.heap.size) ⟨hB6.os, hB6.tape, hB6.output, hB6.size, fun j _ hne => ho6 j (fun e => hne (by rw [e]))⟩ (.inr (by rw [hvr]; simp [Value.ownBlock]; omega))⟩, f1.ord, hbg, f1.hk⟩
  refine post_cell_tmp (g := w.heap.size) (t := 30) (v := .int .i64 0) rfl rfl rfl rfl hg5 Try.underlying30 rfl (by rw [HM.out]; kernel_rfl) ⟨rfl, hF1, ?_, ?_, fun v b hv i hi hne hlt => ?_⟩
  · exact (p2.trans f2).trans (hB6.mono (by omega))
  · exact p3.trans (f3.trans (fun i o ho hi hc => (ho6 i (fun e => by subst e; rw [hz6] at hc; exact ho _ _ (Option.some.inj hc).symm)).trans hc))
  · have hv2 := HAG.out
    have hg2 : v.ownBlock = some gb2 := by
      have h2 := hv
      have h3 := HGW.out
      rw [h3] at h2
      simp at h2
      rw [← h2.2]; rfl
    exact (ho6 i (by omega)).trans ((f4 _ _ hv2 i hi (by rw [hg2] at hne; exact hne) (by rw [hszS]; exact hlt)).trans (p4 v b hv i hi hne hlt))
end Go.Proofs.Ytmjfbilhalkegaa
/-! Drop, Lower and find of a side; Fill where it refuses. Condition: the side is one. -/
namespace Go.Proofs.Ytmjfbilhalkegaa
set_option linter.unusedVariables false
set_option linter.unusedSimpArgs false
open Go.RowKit

theorem sfind_yes {w : World} {g base k : Nat} {buy : Bool} {L : Nat → Array Value} (n : Int) {i : Nat} (h : SideIs w g base k buy L) (hi : fi (fun j => decide (N (L j) 0 = n)) k = i) :
    Calls Try.prog 44 #[.pointer (some ⟨g, 0, none⟩), .int .u64 n] w fun e w' => e = .returned (.tuple #[.int .i64 i, .int .i64 0]) ∧ Below w.heap.size w w' := by
  have cr := sready_yes h
  have ca := sat_any n h
  rw [hi] at ca
  go_enter Try.func44, Try.ntmps44
  go_wp2_with (first | (go_at_call 39; (with_reducible refine (cr).mono ?_); rintro e w1 ⟨rfl, rfl⟩) | (go_at_call 48; (with_reducible refine (ca).mono ?_); rintro e w1 ⟨rfl, hb⟩))
  go_ret2
  exact ⟨rfl, hb⟩
theorem sfind_out {w : World} {g base k : Nat} {buy : Bool} {L : Nat → Array Value} (n : Int) (h : SideIs w g base k buy L) (hi : fi (fun j => decide (N (L j) 0 = n)) k = -1) :
    Calls Try.prog 44 #[.pointer (some ⟨g, 0, none⟩), .int .u64 n] w fun e w' => e = .returned (.tuple #[.int .i64 0, .int .i64 7]) ∧ Below w.heap.size w w' := by
  have cr := sready_yes h
  have ca := sat_any n h
  rw [hi] at ca
  go_enter Try.func44, Try.ntmps44
  go_wp2_with (first | (go_at_call 39; (with_reducible refine (cr).mono ?_); rintro e w1 ⟨rfl, rfl⟩) | (go_at_call 48; (with_reducible refine (ca).mono ?_); rintro e w1 ⟨rfl, hb⟩))
  go_ret2
  exact ⟨rfl, hb⟩
theorem sdrop_out {w : World} {g base k : Nat} {buy : Bool} {L : Nat → Array Value} (n : Int) (h : SideIs w g base k buy L) (hi : fi (fun j => decide (N (L j) 0 = n)) k = -1) :
    Calls Try.prog 33 #[.pointer (some ⟨g, 0, none⟩), .int .u64 n] w fun e w' => e = .returned (.tuple #[.agg zo, .int .i64 7]) ∧ Below w.heap.size w w' := by
  have h1 := h.kept (below_new w (Obj.cells zo 30))
  have hb0 := below_new w (Obj.cells zo 30)
  have hc := heap_alloc_new w (Obj.cells zo 30)
  have HZ := Lib.hid zo_size
  have HA := Lib.hid zo_all
  have cf := sfind_out n h1 hi
  clear h h1 hi
  go_enter Try.func33, Try.ntmps33
  go_wp2_with (first | ((with_reducible refine at_alloc 30 ?_); refine wpList_alloc_named rfl 30 rfl zo (by kernel_rfl) ?_) | (go_at_call 44; (with_reducible refine (cf).mono ?_); rintro e w1 ⟨rfl, hb1⟩; have hc1 := Ytmjfbilhalkegaa.kept hb1 hc) | ((with_reducible refine at_build 30 ?_); refine wpList_build_named rfl 30 _ rfl zo (by kernel_rfl) ?_) | ((with_reducible refine at_store 30 ?_); refine wpList_store_over rfl 30 _ _ rfl (w.heap.size) (zo) rfl rfl _ _ (hc1) (by rw [HZ.out]; kernel_rfl) (rfl) (HA.out) ?_; intro w3 hg3 hs3 ho3 hb3))
  exact post_cell_tmp (g := w.heap.size) (t := 30) (v := .int .i64 7) rfl rfl rfl rfl hg3 Try.underlying30 rfl (by rw [HZ.out]; kernel_rfl) ⟨rfl, (below_then hb0 hb1).trans (hb3 _ (Nat.le_refl _))⟩
theorem slower_out {w : World} {g base k : Nat} {buy : Bool} {L : Nat → Array Value} (n x : Int) (h : SideIs w g base k buy L) (hi : fi (fun j => decide (N (L j) 0 = n)) k = -1) :
    Calls Try.prog 32 #[.pointer (some ⟨g, 0, none⟩), .int .u64 n, .int .i64 x] w fun e w' => e = .returned (.int .i64 7) ∧ Below w.heap.size w w' := by
  have cf := sfind_out n h hi
  clear h hi
  go_enter Try.func32, Try.ntmps32
  go_wp2_with ((go_at_call 44; (with_reducible refine (cf).mono ?_); rintro e w1 ⟨rfl, hb1⟩))
  go_ret
  exact ⟨rfl, hb1⟩
set_option maxHeartbeats 1000000 in
theorem slower_in {w : World} {g base k : Nat} {buy : Bool} {L : Nat → Array Value} (n x : Int) {i : Nat} (h : SideIs w g base k buy L) (hi : fi (fun j => decide (N (L j) 0 = n)) k = i) (hx : F64 x) :
    Calls Try.prog 32 #[.pointer (some ⟨g, 0, none⟩), .int .u64 n, .int .i64 x] w fun e w' => (e = .returned (.int .i64 2) ∧ ¬ (1 ≤ x ∧ x ≤ N (L i) 4) ∧ Below w.heap.size w w') ∨
      (e = .returned (.int .i64 0) ∧ (1 ≤ x ∧ x ≤ N (L i) 4) ∧ SideIs w' g base k buy (lo L i x) ∧ Below base w w' ∧ Ko g w w') := by
  have cf := sfind_yes n h hi
  have hik := (fi_at k i hi).1
  obtain ⟨gb, rc, A, hA, hbb, hsz, hkr, hrc, htk⟩ := h.at_row (by omega)
  have HF := Lib.hid (fun (w1 : World) (hb1 : Below w.heap.size w w1) => side_set h hA hbb hsz hkr hrc htk hik hx hb1)
  have hc4 := hA.cell (i := i) (j := 4) hik (by omega)
  rw [(h.ord i).l.1] at hc4
  have hfi := fi_bd (q := fun j => decide (N (L j) 0 = n)) k
  have HA := Lib.hid hA
  have hiz : (i : Int) < k := by omega
  clear h hi hA htk hfi
  generalize hN : N (L i) 4 = y at *
  clear hN
  have hA := HA.out
  by_cases h1 : x < 1
  · go_enter Try.func32, Try.ntmps32
    go_wp2_with ((go_at_call 44; (with_reducible refine (cf).mono ?_); rintro e w1 ⟨rfl, hb1⟩; have hA1 := hA.kept hb1; have c1 := cellF hA1.1; have c2 := cellF hA1.2.1))
    go_ret
    exact .inl ⟨rfl, by omega, hb1⟩
  · by_cases h2 : y < x
    · go_enter Try.func32, Try.ntmps32
      go_wp2_with ((go_at_call 44; (with_reducible refine (cf).mono ?_); rintro e w1 ⟨rfl, hb1⟩; have hA1 := hA.kept hb1; have c1 := cellF hA1.1; have c2 := cellF hA1.2.1))
      go_ret
      exact .inl ⟨rfl, by omega, hb1⟩
    · go_enter Try.func32, Try.ntmps32
      go_wp2_with ((go_at_call 44; (with_reducible refine (cf).mono ?_); rintro e w1 ⟨rfl, hb1⟩; have hA1 := hA.kept hb1; have c1 := cellF hA1.1; have c2 := cellF hA1.2.1; have f2 := (cells_of hA1.2.1).2.1))
      go_ret
      obtain ⟨q1, q2, q3, _⟩ := HF.out w1 hb1
      exact .inr ⟨rfl, by omega, q1, q2, q3⟩
theorem sfill_zero {w : World} {g base : Nat} {buy : Bool} {L : Nat → Array Value} (n : Int) (h : SideIs w g base 0 buy L) :
    Calls Try.prog 42 #[.pointer (some ⟨g, 0, none⟩), .int .i64 n] w fun e w' => e = .returned (.tuple #[.agg zo, .int .i64 7]) ∧ Below w.heap.size w w' := by
  have h1 := h.kept (below_new w (Obj.cells zo 30))
  have hb0 := below_new w (Obj.cells zo 30)
  have hc := heap_alloc_new w (Obj.cells zo 30)
  have HZ := Lib.hid zo_size
  have HA := Lib.hid zo_all
  have cr := sready_yes h1
  obtain ⟨v, hg, hrow⟩ := h1.row
  obtain ⟨ra, rc, rfl, _⟩ := own_rows (c := 5) (fun i => (h1.ord i).size) hrow
  have cg := cellF hg
  clear h h1 hrow
  go_enter Try.func42, Try.ntmps42
  go_wp2_with (first | ((with_reducible refine at_alloc 30 ?_); refine wpList_alloc_named rfl 30 rfl zo (by kernel_rfl) ?_) | (go_at_call 39; (with_reducible refine (cr).mono ?_); rintro e w1 ⟨rfl, rfl⟩) | ((with_reducible refine at_build 30 ?_); refine wpList_build_named rfl 30 _ rfl zo (by kernel_rfl) ?_) | ((with_reducible refine at_store 30 ?_); refine wpList_store_over rfl 30 _ _ rfl (w.heap.size) (zo) rfl rfl _ _ (hc) (by rw [HZ.out]; kernel_rfl) (rfl) (HA.out) ?_; intro w3 hg3 hs3 ho3 hb3))
  exact post_cell_tmp (g := w.heap.size) (t := 30) (v := .int .i64 7) rfl rfl rfl rfl hg3 Try.underlying30 rfl (by rw [HZ.out]; kernel_rfl) ⟨rfl, hb0.trans (hb3 _ (Nat.le_refl _))⟩
set_option maxHeartbeats 1000000 in
theorem sfill_bad {w : World} {g base k : Nat} {buy : Bool} {L : Nat → Array Value} (n : Int) (h : SideIs w g base k buy L) (hk : 0 < k) (hn : n < 1 ∨ N (L 0) 4 < n) :
    Calls Try.prog 42 #[.pointer (some ⟨g, 0, none⟩), .int .i64 n] w fun e w' => e = .returned (.tuple #[.agg zo, .int .i64 2]) ∧ Below w.heap.size w w' := by
  have h1 := h.kept (below_new w (Obj.cells zo 30))
  have hb0 := below_new w (Obj.cells zo 30)
  have hc := heap_alloc_new w (Obj.cells zo 30)
  have HZ := Lib.hid zo_size
  have HA := Lib.hid zo_all
  have cr := sready_yes h1
  obtain ⟨gb, rc, B, hB, _⟩ := h1.at_row hk
  have cg := cellF hB.1
  have ca := cellF hB.2.1
  have hc4 := hB.cell (i := 0) (j := 4) hk (by omega)
  rw [(h.ord 0).l.1, show 0 * 5 + 4 = 4 from rfl] at hc4
  have hk0 : ¬ (k : Int) = 0 := by omega
  have hk1 : (0 : Int) < k := by omega
  clear h h1 hB
  generalize N (L 0) 4 = y at *
  by_cases h1 : n < 1
  · clear hn
    go_enter Try.func42, Try.ntmps42
    go_wp2_with (first | ((with_reducible refine at_alloc 30 ?_); refine wpList_alloc_named rfl 30 rfl zo (by kernel_rfl) ?_) | (go_at_call 39; (with_reducible refine (cr).mono ?_); rintro e w1 ⟨rfl, rfl⟩) | ((with_reducible refine at_build 30 ?_); refine wpList_build_named rfl 30 _ rfl zo (by kernel_rfl) ?_) | ((with_reducible refine at_store 30 ?_); refine wpList_store_over rfl 30 _ _ rfl (w.heap.size) (zo) rfl rfl _ _ (hc) (by rw [HZ.out]; kernel_rfl) (rfl) (HA.out) ?_; intro w3 hg3 hs3 ho3 hb3))
    exact post_cell_tmp (g := w.heap.size) (t := 30) (v := .int .i64 2) rfl rfl rfl rfl hg3 Try.underlying30 rfl (by rw [HZ.out]; kernel_rfl) ⟨rfl, hb0.trans (hb3 _ (Nat.le_refl _))⟩
  · have h2 : y < n := by omega
    clear hn
    go_enter Try.func42, Try.ntmps42
    go_wp2_with (first | ((with_reducible refine at_alloc 30 ?_); refine wpList_alloc_named rfl 30 rfl zo (by kernel_rfl) ?_) | (go_at_call 39; (with_reducible refine (cr).mono ?_); rintro e w1 ⟨rfl, rfl⟩) | ((with_reducible refine at_build 30 ?_); refine wpList_build_named rfl 30 _ rfl zo (by kernel_rfl) ?_) | ((with_reducible refine at_store 30 ?_); refine wpList_store_over rfl 30 _ _ rfl (w.heap.size) (zo) rfl rfl _ _ (hc) (by rw [HZ.out]; kernel_rfl) (rfl) (HA.out) ?_; intro w3 hg3 hs3 ho3 hb3))
    exact post_cell_tmp (g := w.heap.size) (t := 30) (v := .int .i64 2) rfl rfl rfl rfl hg3 Try.underlying30 rfl (by rw [HZ.out]; kernel_rfl) ⟨rfl, hb0.trans (hb3 _ (Nat.le_refl _))⟩
set_option maxRecDepth 100000 in
set_option maxHeartbeats 2000000 in
theorem sdrop_in {w : World} {g base k : Nat} {buy : Bool} {L : Nat → Array Value} (n : Int) {i : Nat} (h : SideIs w g base k buy L) (hi : fi (fun j => decide (N (L j) 0 = n)) k = i) :
    Calls Try.prog 33 #[.pointer (some ⟨g, 0, none⟩), .int .u64 n] w fun e w' => e = .returned (.tuple #[.agg (L i), .int .i64 0]) ∧ SideIs w' g base (k - 1) buy (rem L i) ∧ Below base w w' ∧ Ko g w w' := by
  have h1 := h.kept (below_new w (Obj.cells zo 30))
  have hb0 := below_new w (Obj.cells zo 30)
  have hc := heap_alloc_new w (Obj.cells zo 30)
  have HZ := Lib.hid zo_size
  have HA := Lib.hid zo_all
  have cf := sfind_yes n h1 hi
  have hik := (fi_at k i hi).1
  obtain ⟨gb, rc, A, hR, hbb, hsz, hkr, hrc, htk⟩ := h.at_row (by omega)
  have HR := Lib.hid hR
  have HH := Lib.hid h
  have hgw := (cells_of hR.1).2.2
  have hgb := (cells_of hR.2.1).2.2
  have HOW := Lib.hid (show w.ownsRow base 30 5 (.slice (some ⟨gb, 0, none⟩) k rc) k (flat L k) from ⟨flatc_len (fun i => (h.ord i).size) k, .inr ⟨gb, rc, A, rfl, hbb, hR.2.1, hkr, by unfold maxLen; omega, hsz, htk⟩⟩)
  have HM := Lib.hid (h.ord i).size
  have HMA := Lib.hid (h.ord i).all
  have HMX := Lib.hid (extract_all (h.ord i).size)
  have HOS := Lib.hid h.ord
  have hiz : (i : Int) < k := by omega
  have hk9 := h.hk
  generalize hLi : L i = M at *
  have HLI := Lib.hid hLi
  clear h h1 hi htk hR hLi
  go_enter Try.func33, Try.ntmps33
  go_wp2_with (first | ((with_reducible refine at_alloc 30 ?_); refine wpList_alloc_named rfl 30 rfl zo (by kernel_rfl) ?_) | (go_at_call 44; (with_reducible refine (cf).mono ?_); rintro e w1 ⟨rfl, hb1⟩; have hb01 := below_then hb0 hb1; have hc1 := Ytmjfbilhalkegaa.kept hb1 hc; have hR1 := HR.out.kept hb01; have c1 := cellF hR1.1; have hA1 := hR1.2.1; have hbm := below_then hb01 (below_new w1 (Obj.cells M 30)); have cm := cellF (heap_up (o := Obj.cells M 30) hR1.1); have HX := Lib.hid (hR1.2.2 i hik); clear hR1; have hm1 := heap_alloc_new w1 (Obj.cells M 30); have hcm := heap_up (o := Obj.cells M 30) hc1) | ((with_reducible refine at_load 30 ?_); refine wpList_load_part rfl 30 _ rfl (gb) (i * 5) rfl _ (A) _ _ 5 (hA1) Try.underlying30 rfl (by kernel_rfl) (HX.out.1) (M) (by rw [← HLI.out]; exact HX.out.2) ?_) | ((with_reducible refine at_store 30 ?_); refine wpList_store_new rfl 30 _ _ rfl (M) _ _ _ rfl (by simp) rfl (by rw [HM.out]; kernel_rfl) (by rw [HM.out]; rfl) (HMA.out) ?_) | (go_at_call 45; (with_reducible refine (delo_any base k i L (some ⟨gb, 0, none⟩) rc _ (fun j => (HOS.out j).size) (fun j => (HOS.out j).all) (own_below hbm HOW.out) hik).mono ?_); rintro e w5 ⟨rfl, ho5, hb5, hoth⟩; have hsh := side_shrunk HH.out HR.out.1 hbm (own_below hbm HOW.out) hoth hb5 ho5; have cg5 := cellF hsh.1; have fg5 := (cells_of hsh.1).2.1; have hszw := hb01.size; have hm6 := heap_set_other (g := g) (i := 2) (v := Value.slice (some ⟨gb, 0, none⟩) (k - 1) rc) ((hoth w1.heap.size (by simp [Value.ownBlock]; omega)).trans hm1) (by omega); have hz6 := heap_set_other (g := g) (i := 2) (v := Value.slice (some ⟨gb, 0, none⟩) (k - 1) rc) ((hoth w.heap.size (by simp [Value.ownBlock]; omega)).trans hcm) (by omega)) | ((with_reducible refine at_load 30 ?_); refine wpList_load_part rfl 30 _ rfl (w1.heap.size) (0) rfl _ (M) _ _ 5 (hm6) Try.underlying30 rfl (by kernel_rfl) (by rw [HM.out]; omega) (M) (HMX.out) ?_) | ((with_reducible refine at_store 30 ?_); refine wpList_store_over rfl 30 _ _ rfl (w.heap.size) (M) rfl rfl _ _ (hz6) (by rw [HM.out]; kernel_rfl) (by rw [HM.out]; rfl) (HMA.out) ?_; intro w3 hg5 hs5 ho6 hb6))
  have hB6 := hb6 _ (Nat.le_refl _)
  obtain ⟨hsh1, f1, f2, f3, _⟩ := hsh
  have hbg := f1.bg
  obtain ⟨vr, hgr, hrow⟩ := f1.row
  have hvr : vr = .slice (some ⟨gb, 0, none⟩) (k - 1) rc := by
    have := heap_set (i := 2) (v := Value.slice (some ⟨gb, 0, none⟩) (k - 1) rc) hsh1
    rw [hgr] at this
    simpa using this
  have hF1 : SideIs w3 g base (k - 1) buy (rem L i) := ⟨⟨vr, (ho6 g (by omega)).trans hgr, hrow.kept (row := some w.heap.size) ⟨hB6.os, hB6.tape, hB6.output, hB6.size, fun j _ hne => ho6 j (fun e => hne (by rw [e]))⟩ (.inr (by rw [hvr]; simp [Value.ownBlock]; omega))⟩, f1.ord, hbg, f1.hk⟩
  refine post_cell_tmp (g := w.heap.size) (t := 30) (v := .int .i64 0) rfl rfl rfl rfl hg5 Try.underlying30 rfl (by rw [HM.out]; kernel_rfl) ⟨rfl, hF1, f2.trans (hB6.mono (by omega)), ?_⟩
  exact f3.trans (fun j o ho hj hcc => (ho6 j (fun e => by subst e; rw [hz6] at hcc; exact ho _ _ (Option.some.inj hcc).symm)).trans hcc)
end Go.Proofs.Ytmjfbilhalkegaa
