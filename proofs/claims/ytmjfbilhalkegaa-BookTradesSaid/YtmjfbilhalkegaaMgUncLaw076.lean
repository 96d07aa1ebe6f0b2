/- Texts that UncLaw07 stands on, one behind the other, part 6. Conditions: each theorem names its own. -/
import Derived.Test.YtmjfbilhalkegaaMgUncLaw075
import Derived.Laws.AppendOwn
import Derived.Lib.SliceRun
import Derived.RangeFuncNested
import Derived.RangeFuncBound
import Derived.RangeFuncCalls
import Derived.RangeFuncLeaves
import Derived.Shelf.Abstract
import Derived.LoopN
import Derived.RangeFuncKeeps
import Derived.WalkKit
import Derived.OwnWalkIn
import Derived.TacticsInMore
import Derived.LoopNIn
import Derived.LoopIn
/-! Add of a side for whatever order; Best of an empty side. Condition: the side is one. -/
namespace Go.Proofs.Ytmjfbilhalkegaa
set_option linter.unusedVariables false
set_option linter.unusedSimpArgs false
open Go.RowKit

theorem inB_no' {x a b : Int} (h : ¬ (a ≤ x ∧ x ≤ b)) : inB x a b = false := by
  cases hb : inB x a b
  · rfl
  · exact absurd (inB_iff.1 hb) h
set_option maxHeartbeats 1000000 in
theorem omay_any (A : Array Value) (w : World) (h : IsOrd A) :
    Calls Try.prog 26 #[.agg A] w fun e w' => e = .returned (.bool (okO A)) ∧ Below w.heap.size w w' := by
  have hsz := h.size
  have a0 : A[0]? = some (.int .u64 (N A 0)) := h.n.1
  have a1 : A[1]? = some (.int .u32 (N A 1)) := h.a.1
  have a3 : A[3]? = some (.int .i64 (N A 3)) := h.p.1
  have a4 : A[4]? = some (.int .i64 (N A 4)) := h.l.1
  have HF := Lib.hid (show okO A = (!decide (N A 0 = 0) && !decide (N A 1 = 0) && inB (N A 3) 1 10000000 && inB (N A 4) 1 1000000) from rfl)
  have Hsz := Lib.hid hsz
  clear hsz h
  generalize okO A = ok at *
  generalize N A 0 = x0 at *
  generalize N A 1 = x1 at *
  generalize N A 3 = x3 at *
  generalize N A 4 = x4 at *
  by_cases q0 : x0 = 0
  · have q0' : (x0 != 0) = false := by simp [q0]
    have HX := Lib.hid (show ok = false by rw [HF.out]; simp [q0])
    go_enter Try.func26, Try.ntmps26
    go_wp2
    go_ret
    exact ⟨(by rw [HX.out]; first | rfl | (simp [*]; done) | (simp [*]; omega)), below_new _ _⟩
  · have q0' : (x0 != 0) = true := by simp [q0]
    by_cases q1 : x1 = 0
    · have q1' : (x1 != 0) = false := by simp [q1]
      have HX := Lib.hid (show ok = false by rw [HF.out]; simp [q1])
      go_enter Try.func26, Try.ntmps26
      go_wp2
      go_ret
      exact ⟨(by rw [HX.out]; first | rfl | (simp [*]; done) | (simp [*]; omega)), below_new _ _⟩
    · have q1' : (x1 != 0) = true := by simp [q1]
      by_cases p1 : x3 < 1
      · have HX := Lib.hid (show ok = false by rw [HF.out, inB_no' (by omega)]; simp)
        go_enter Try.func26, Try.ntmps26
        go_wp2
        go_ret
        exact ⟨(by rw [HX.out]; first | rfl | (simp [*]; done) | (simp [*]; omega)), below_new _ _⟩
      · by_cases p2 : 10000000 < x3
        · have HX := Lib.hid (show ok = false by rw [HF.out, inB_no' (by omega)]; simp)
          go_enter Try.func26, Try.ntmps26
          go_wp2
          go_ret
          exact ⟨(by rw [HX.out]; first | rfl | (simp [*]; done) | (simp [*]; omega)), below_new _ _⟩
        · by_cases l1 : x4 < 1
          · have HX := Lib.hid (show ok = false by rw [HF.out, show inB x4 1 1000000 = false from inB_no' (by omega)]; simp)
            go_enter Try.func26, Try.ntmps26
            go_wp2
            go_ret
            exact ⟨(by rw [HX.out]; first | rfl | (simp [*]; done) | (simp [*]; omega)), below_new _ _⟩
          · by_cases l2 : 1000000 < x4
            · have HX := Lib.hid (show ok = false by rw [HF.out, show inB x4 1 1000000 = false from inB_no' (by omega)]; simp)
              go_enter Try.func26, Try.ntmps26
              go_wp2
              go_ret
              exact ⟨(by rw [HX.out]; first | rfl | (simp [*]; done) | (simp [*]; omega)), below_new _ _⟩
            · have HX := Lib.hid (show ok = true by rw [HF.out, inB_iff.2 (show 1 ≤ x3 ∧ x3 ≤ 10000000 by omega), inB_iff.2 (show 1 ≤ x4 ∧ x4 ≤ 1000000 by omega)]; simp [q0, q1])
              go_enter Try.func26, Try.ntmps26
              go_wp2
              go_ret
              exact ⟨(by rw [HX.out]; first | rfl | (simp [*]; done) | (simp [*]; omega)), below_new _ _⟩

theorem sadd_bad {w : World} {g base k : Nat} {L : Nat → Array Value} {B : Array Value} (buy : Bool) (h : SideIs w g base k buy L) (hB : IsOrd B) (hok : okO B = false) :
    Calls Try.prog 43 #[.pointer (some ⟨g, 0, none⟩), .agg B] w fun e w' => e = .returned (.int .i64 2) ∧ Below w.heap.size w w' := by
  have hb2 := below_alloc (below_new w (Obj.cells #[.pointer (some ⟨g, 0, none⟩)] 54)) (Obj.cells B 30)
  have hgo : ((w.alloc (Obj.cells #[.pointer (some ⟨g, 0, none⟩)] 54)).alloc (Obj.cells B 30)).heap[w.heap.size + 1]? = some (.cells B 30 (0, 0)) := by repeat (first | exact heap_new (by simp; done) | refine heap_up ?_)
  have hgs : ((w.alloc (Obj.cells #[.pointer (some ⟨g, 0, none⟩)] 54)).alloc (Obj.cells B 30)).heap[w.heap.size]? = some (.cells #[.pointer (some ⟨g, 0, none⟩)] 54 (0, 0)) := by repeat (first | exact heap_new (by simp; done) | refine heap_up ?_)
  obtain ⟨w2, hw2⟩ : ∃ w2, w2 = (w.alloc (Obj.cells #[.pointer (some ⟨g, 0, none⟩)] 54)).alloc (Obj.cells B 30) := ⟨_, rfl⟩
  have HS := Lib.hid h
  obtain ⟨v, hg, hrow⟩ := h.row
  obtain ⟨ra, rc, rfl, hR, _⟩ := own_rows (c := 5) (fun i => (h.ord i).size) hrow
  have HR := Lib.hid hR
  have HG := Lib.hid hg
  have HROW := Lib.hid hrow
  have hN0 := hB.n.1
  have hB2 : B[2]? = some (.bool (Bo B 2)) := hB.b
  have HB := Lib.hid hB
  have HEX := Lib.hid (extract_all hB.size)
  have CM := Lib.hid (fun w1 => omay_any B w1 hB)
  rw [hok] at CM
  have hHK := h.hk
  clear h hB hok hg hrow hR
  go_enter Try.func43, Try.ntmps43
  rw [← hw2] at hb2 hgo hgs
  have hS2 := HS.out.kept hb2
  have hg2 := Ytmjfbilhalkegaa.kept hb2 HG.out
  have cs2 := cellF hgs
  have co2 := cellF hgo
  have cg2 := cellF hg2
  have cr := sready_yes hS2
  rw [hw2] at cs2 co2 cg2 cr
  go_wp2_with ((go_at_call 39; (with_reducible refine (cr).mono ?_); rintro e w1 ⟨rfl, rfl⟩))
  rw [← hw2] at cs2 co2 cg2 cr ⊢
  have hsz2 : w2.heap.size = w.heap.size + 2 := by rw [hw2]; simp
  clear hw2 cr cs2 co2 cg2
  refine wp_region_below (by kernel_rfl) (by kernel_rfl) ?_
  repeat (first | ((with_reducible apply q_skip); (case hw => rfl); (try simp only [Act.put, List.setIfInBounds_toArray, List.set_cons_zero, List.set_cons_succ])) | ((with_reducible refine at_qload 30 ?_); refine q_load_part (by rfl) 30 _ rfl (w.heap.size + 1) (0) rfl _ (B) _ 5 (hgo) Try.underlying30 rfl (by kernel_rfl) (by rw [HB.out.size]; omega) (B) (HEX.out) ?_; try simp only [Act.put, List.setIfInBounds_toArray, List.set_cons_zero, List.set_cons_succ]) | ((with_reducible refine at_qcall 26 ?_); refine q_call_below _ 26 _ (by rfl) (CM.out) (fun wq hbq => by go_simp) ?_; try simp only [Act.put, List.setIfInBounds_toArray, List.set_cons_zero, List.set_cons_succ]) | ((with_reducible apply q_val); (case hw => rfl); (case hv => intro wq hbq; have hcq := cellF (Ytmjfbilhalkegaa.kept hbq hgo); have hcr := cellF (Ytmjfbilhalkegaa.kept hbq hg2); have hcs := cellF (Ytmjfbilhalkegaa.kept hbq hgs); go_simp; try rfl); (try simp only [Act.put, List.setIfInBounds_toArray, List.set_cons_zero, List.set_cons_succ])))
  refine q_nil ?_
  intro w6 hb6
  have hb62 := below_then hb2 hb6
  go_wp2_with fail
  go_ret
  exact ⟨rfl, hb62⟩
theorem sadd_wrong {w : World} {g base k : Nat} {L : Nat → Array Value} {B : Array Value} (buy : Bool) (h : SideIs w g base k buy L) (hB : IsOrd B) (hok : okO B = true) (hbuy : Bo B 2 ≠ buy) :
    Calls Try.prog 43 #[.pointer (some ⟨g, 0, none⟩), .agg B] w fun e w' => e = .returned (.int .i64 2) ∧ Below w.heap.size w w' := by
  have hb2 := below_alloc (below_new w (Obj.cells #[.pointer (some ⟨g, 0, none⟩)] 54)) (Obj.cells B 30)
  have hgo : ((w.alloc (Obj.cells #[.pointer (some ⟨g, 0, none⟩)] 54)).alloc (Obj.cells B 30)).heap[w.heap.size + 1]? = some (.cells B 30 (0, 0)) := by repeat (first | exact heap_new (by simp; done) | refine heap_up ?_)
  have hgs : ((w.alloc (Obj.cells #[.pointer (some ⟨g, 0, none⟩)] 54)).alloc (Obj.cells B 30)).heap[w.heap.size]? = some (.cells #[.pointer (some ⟨g, 0, none⟩)] 54 (0, 0)) := by repeat (first | exact heap_new (by simp; done) | refine heap_up ?_)
  obtain ⟨w2, hw2⟩ : ∃ w2, w2 = (w.alloc (Obj.cells #[.pointer (some ⟨g, 0, none⟩)] 54)).alloc (Obj.cells B 30) := ⟨_, rfl⟩
  have HS := Lib.hid h
  obtain ⟨v, hg, hrow⟩ := h.row
  obtain ⟨ra, rc, rfl, hR, _⟩ := own_rows (c := 5) (fun i => (h.ord i).size) hrow
  have HR := Lib.hid hR
  have HG := Lib.hid hg
  have HROW := Lib.hid hrow
  have hN0 := hB.n.1
  have hB2 : B[2]? = some (.bool (Bo B 2)) := hB.b
  have HB := Lib.hid hB
  have HEX := Lib.hid (extract_all hB.size)
  have CM := Lib.hid (fun w1 => omay_any B w1 hB)
  rw [hok] at CM
  have hHK := h.hk
  have hbn : Bo B 2 = !buy := by cases hb : Bo B 2 <;> cases hc : buy <;> simp_all
  rw [hbn] at hB2
  clear h hB hok hg hrow hR hbuy hbn
  cases buy
  · go_enter Try.func43, Try.ntmps43
    rw [← hw2] at hb2 hgo hgs
    have hS2 := HS.out.kept hb2
    have hg2 := Ytmjfbilhalkegaa.kept hb2 HG.out
    have cs2 := cellF hgs
    have co2 := cellF hgo
    have cg2 := cellF hg2
    have cr := sready_yes hS2
    rw [hw2] at cs2 co2 cg2 cr
    go_wp2_with ((go_at_call 39; (with_reducible refine (cr).mono ?_); rintro e w1 ⟨rfl, rfl⟩))
    rw [← hw2] at cs2 co2 cg2 cr ⊢
    have hsz2 : w2.heap.size = w.heap.size + 2 := by rw [hw2]; simp
    clear hw2 cr cs2 co2 cg2
    refine wp_region_below (by kernel_rfl) (by kernel_rfl) ?_
    repeat (first | ((with_reducible apply q_skip); (case hw => rfl); (try simp only [Act.put, List.setIfInBounds_toArray, List.set_cons_zero, List.set_cons_succ])) | ((with_reducible refine at_qload 30 ?_); refine q_load_part (by rfl) 30 _ rfl (w.heap.size + 1) (0) rfl _ (B) _ 5 (hgo) Try.underlying30 rfl (by kernel_rfl) (by rw [HB.out.size]; omega) (B) (HEX.out) ?_; try simp only [Act.put, List.setIfInBounds_toArray, List.set_cons_zero, List.set_cons_succ]) | ((with_reducible refine at_qcall 26 ?_); refine q_call_below _ 26 _ (by rfl) (CM.out) (fun wq hbq => by go_simp) ?_; try simp only [Act.put, List.setIfInBounds_toArray, List.set_cons_zero, List.set_cons_succ]) | ((with_reducible apply q_val); (case hw => rfl); (case hv => intro wq hbq; have hcq := cellF (Ytmjfbilhalkegaa.kept hbq hgo); have hcr := cellF (Ytmjfbilhalkegaa.kept hbq hg2); have hcs := cellF (Ytmjfbilhalkegaa.kept hbq hgs); go_simp; try rfl); (try simp only [Act.put, List.setIfInBounds_toArray, List.set_cons_zero, List.set_cons_succ])))
    refine q_nil ?_
    intro w6 hb6
    have hb62 := below_then hb2 hb6
    go_wp2_with fail
    go_ret
    exact ⟨rfl, hb62⟩
  · go_enter Try.func43, Try.ntmps43
    rw [← hw2] at hb2 hgo hgs
    have hS2 := HS.out.kept hb2
    have hg2 := Ytmjfbilhalkegaa.kept hb2 HG.out
    have cs2 := cellF hgs
    have co2 := cellF hgo
    have cg2 := cellF hg2
    have cr := sready_yes hS2
    rw [hw2] at cs2 co2 cg2 cr
    go_wp2_with ((go_at_call 39; (with_reducible refine (cr).mono ?_); rintro e w1 ⟨rfl, rfl⟩))
    rw [← hw2] at cs2 co2 cg2 cr ⊢
    have hsz2 : w2.heap.size = w.heap.size + 2 := by rw [hw2]; simp
    clear hw2 cr cs2 co2 cg2
    refine wp_region_below (by kernel_rfl) (by kernel_rfl) ?_
    repeat (first | ((with_reducible apply q_skip); (case hw => rfl); (try simp only [Act.put, List.setIfInBounds_toArray, List.set_cons_zero, List.set_cons_succ])) | ((with_reducible refine at_qload 30 ?_); refine q_load_part (by rfl) 30 _ rfl (w.heap.size + 1) (0) rfl _ (B) _ 5 (hgo) Try.underlying30 rfl (by kernel_rfl) (by rw [HB.out.size]; omega) (B) (HEX.out) ?_; try simp only [Act.put, List.setIfInBounds_toArray, List.set_cons_zero, List.set_cons_succ]) | ((with_reducible refine at_qcall 26 ?_); refine q_call_below _ 26 _ (by rfl) (CM.out) (fun wq hbq => by go_simp) ?_; try simp only [Act.put, List.setIfInBounds_toArray, List.set_cons_zero, List.set_cons_succ]) | ((with_reducible apply q_val); (case hw => rfl); (case hv => intro wq hbq; have hcq := cellF (Ytmjfbilhalkegaa.kept hbq hgo); have hcr := cellF (Ytmjfbilhalkegaa.kept hbq hg2); have hcs := cellF (Ytmjfbilhalkegaa.kept hbq hgs); go_simp; try rfl); (try simp only [Act.put, List.setIfInBounds_toArray, List.set_cons_zero, List.set_cons_succ])))
    refine q_nil ?_
    intro w6 hb6
    have hb62 := below_then hb2 hb6
    go_wp2_with fail
    go_ret
    exact ⟨rfl, hb62⟩
theorem sadd_twice {w : World} {g base k : Nat} {L : Nat → Array Value} {B : Array Value} (buy : Bool) (h : SideIs w g base k buy L) (hB : IsOrd B) (hok : okO B = true) (hbuy : Bo B 2 = buy) (hat : 0 ≤ fi (fun i => decide (N (L i) 0 = N B 0)) k) :
    Calls Try.prog 43 #[.pointer (some ⟨g, 0, none⟩), .agg B] w fun e w' => e = .returned (.int .i64 8) ∧ Below w.heap.size w w' := by
  have hb2 := below_alloc (below_new w (Obj.cells #[.pointer (some ⟨g, 0, none⟩)] 54)) (Obj.cells B 30)
  have hgo : ((w.alloc (Obj.cells #[.pointer (some ⟨g, 0, none⟩)] 54)).alloc (Obj.cells B 30)).heap[w.heap.size + 1]? = some (.cells B 30 (0, 0)) := by repeat (first | exact heap_new (by simp; done) | refine heap_up ?_)
  have hgs : ((w.alloc (Obj.cells #[.pointer (some ⟨g, 0, none⟩)] 54)).alloc (Obj.cells B 30)).heap[w.heap.size]? = some (.cells #[.pointer (some ⟨g, 0, none⟩)] 54 (0, 0)) := by repeat (first | exact heap_new (by simp; done) | refine heap_up ?_)
  obtain ⟨w2, hw2⟩ : ∃ w2, w2 = (w.alloc (Obj.cells #[.pointer (some ⟨g, 0, none⟩)] 54)).alloc (Obj.cells B 30) := ⟨_, rfl⟩
  have HS := Lib.hid h
  obtain ⟨v, hg, hrow⟩ := h.row
  obtain ⟨ra, rc, rfl, hR, _⟩ := own_rows (c := 5) (fun i => (h.ord i).size) hrow
  have HR := Lib.hid hR
  have HG := Lib.hid hg
  have HROW := Lib.hid hrow
  have hN0 := hB.n.1
  have hB2 : B[2]? = some (.bool (Bo B 2)) := hB.b
  have HB := Lib.hid hB
  have HEX := Lib.hid (extract_all hB.size)
  have CM := Lib.hid (fun w1 => omay_any B w1 hB)
  rw [hok] at CM
  have hHK := h.hk
  rw [hbuy] at hB2
  obtain ⟨pi, hpi⟩ : ∃ pi : Nat, fi (fun i => decide (N (L i) 0 = N B 0)) k = pi := ⟨_, (Int.toNat_of_nonneg hat).symm⟩
  have HAT := Lib.hid hpi
  clear h hB hok hg hrow hR hbuy hat hpi
  go_enter Try.func43, Try.ntmps43
  rw [← hw2] at hb2 hgo hgs
  have hS2 := HS.out.kept hb2
  have hg2 := Ytmjfbilhalkegaa.kept hb2 HG.out
  have cs2 := cellF hgs
  have co2 := cellF hgo
  have cg2 := cellF hg2
  have cr := sready_yes hS2
  rw [hw2] at cs2 co2 cg2 cr
  go_wp2_with ((go_at_call 39; (with_reducible refine (cr).mono ?_); rintro e w1 ⟨rfl, rfl⟩))
  rw [← hw2] at cs2 co2 cg2 cr ⊢
  have hsz2 : w2.heap.size = w.heap.size + 2 := by rw [hw2]; simp
  clear hw2 cr cs2 co2 cg2
  refine wp_region_below (by kernel_rfl) (by kernel_rfl) ?_
  repeat (first | ((with_reducible apply q_skip); (case hw => rfl); (try simp only [Act.put, List.setIfInBounds_toArray, List.set_cons_zero, List.set_cons_succ])) | ((with_reducible refine at_qload 30 ?_); refine q_load_part (by rfl) 30 _ rfl (w.heap.size + 1) (0) rfl _ (B) _ 5 (hgo) Try.underlying30 rfl (by kernel_rfl) (by rw [HB.out.size]; omega) (B) (HEX.out) ?_; try simp only [Act.put, List.setIfInBounds_toArray, List.set_cons_zero, List.set_cons_succ]) | ((with_reducible refine at_qcall 26 ?_); refine q_call_below _ 26 _ (by rfl) (CM.out) (fun wq hbq => by go_simp) ?_; try simp only [Act.put, List.setIfInBounds_toArray, List.set_cons_zero, List.set_cons_succ]) | ((with_reducible apply q_val); (case hw => rfl); (case hv => intro wq hbq; have hcq := cellF (Ytmjfbilhalkegaa.kept hbq hgo); have hcr := cellF (Ytmjfbilhalkegaa.kept hbq hg2); have hcs := cellF (Ytmjfbilhalkegaa.kept hbq hgs); go_simp; try rfl); (try simp only [Act.put, List.setIfInBounds_toArray, List.set_cons_zero, List.set_cons_succ])))
  refine q_nil ?_
  intro w6 hb6
  have hb62 := below_then hb2 hb6
  have hS6 := HS.out.kept hb62
  have hgo6 := Ytmjfbilhalkegaa.kept hb6 hgo
  have hgs6 := Ytmjfbilhalkegaa.kept hb6 hgs
  have hg6 := Ytmjfbilhalkegaa.kept hb6 hg2
  have ca := sat_any (N B 0) hS6
  rw [HAT.out] at ca
  clear hS2 hg2 hgo hgs
  have co := cellF hgo6
  have cs := cellF hgs6
  have hmf : ∀ (fn : Fn) (first cap : Array Value) (w : World), (Instr.makeFunc fn first cap).run Try.prog w = .ok (.func fn first cap) w := fun _ _ _ _ => rfl
  go_wp2_with ((go_at_call 48; (with_reducible refine (ca).mono ?_); rintro e w7 ⟨rfl, hb7⟩; have cs7 := cellF (Ytmjfbilhalkegaa.kept hb7 hgs6); have cg7 := cellF (Ytmjfbilhalkegaa.kept hb7 hg6)))
  go_ret
  exact ⟨rfl, below_then hb62 hb7⟩
theorem sadd_full {w : World} {g base k : Nat} {L : Nat → Array Value} {B : Array Value} (buy : Bool) (h : SideIs w g base k buy L) (hB : IsOrd B) (hok : okO B = true) (hbuy : Bo B 2 = buy) (hat : fi (fun i => decide (N (L i) 0 = N B 0)) k = -1) (hk : 100 ≤ k) :
    Calls Try.prog 43 #[.pointer (some ⟨g, 0, none⟩), .agg B] w fun e w' => e = .returned (.int .i64 9) ∧ Below w.heap.size w w' := by
  have hb2 := below_alloc (below_new w (Obj.cells #[.pointer (some ⟨g, 0, none⟩)] 54)) (Obj.cells B 30)
  have hgo : ((w.alloc (Obj.cells #[.pointer (some ⟨g, 0, none⟩)] 54)).alloc (Obj.cells B 30)).heap[w.heap.size + 1]? = some (.cells B 30 (0, 0)) := by repeat (first | exact heap_new (by simp; done) | refine heap_up ?_)
  have hgs : ((w.alloc (Obj.cells #[.pointer (some ⟨g, 0, none⟩)] 54)).alloc (Obj.cells B 30)).heap[w.heap.size]? = some (.cells #[.pointer (some ⟨g, 0, none⟩)] 54 (0, 0)) := by repeat (first | exact heap_new (by simp; done) | refine heap_up ?_)
  obtain ⟨w2, hw2⟩ : ∃ w2, w2 = (w.alloc (Obj.cells #[.pointer (some ⟨g, 0, none⟩)] 54)).alloc (Obj.cells B 30) := ⟨_, rfl⟩
  have HS := Lib.hid h
  obtain ⟨v, hg, hrow⟩ := h.row
  obtain ⟨ra, rc, rfl, hR, _⟩ := own_rows (c := 5) (fun i => (h.ord i).size) hrow
  have HR := Lib.hid hR
  have HG := Lib.hid hg
  have HROW := Lib.hid hrow
  have hN0 := hB.n.1
  have hB2 : B[2]? = some (.bool (Bo B 2)) := hB.b
  have HB := Lib.hid hB
  have HEX := Lib.hid (extract_all hB.size)
  have CM := Lib.hid (fun w1 => omay_any B w1 hB)
  rw [hok] at CM
  have hHK := h.hk
  rw [hbuy] at hB2
  have HAT := Lib.hid hat
  have h100 : (100 : Int) ≤ k := by omega
  clear h hB hok hg hrow hR hbuy hat
  go_enter Try.func43, Try.ntmps43
  rw [← hw2] at hb2 hgo hgs
  have hS2 := HS.out.kept hb2
  have hg2 := Ytmjfbilhalkegaa.kept hb2 HG.out
  have cs2 := cellF hgs
  have co2 := cellF hgo
  have cg2 := cellF hg2
  have cr := sready_yes hS2
  rw [hw2] at cs2 co2 cg2 cr
  go_wp2_with ((go_at_call 39; (with_reducible refine (cr).mono ?_); rintro e w1 ⟨rfl, rfl⟩))
  rw [← hw2] at cs2 co2 cg2 cr ⊢
  have hsz2 : w2.heap.size = w.heap.size + 2 := by rw [hw2]; simp
  clear hw2 cr cs2 co2 cg2
  refine wp_region_below (by kernel_rfl) (by kernel_rfl) ?_
  repeat (first | ((with_reducible apply q_skip); (case hw => rfl); (try simp only [Act.put, List.setIfInBounds_toArray, List.set_cons_zero, List.set_cons_succ])) | ((with_reducible refine at_qload 30 ?_); refine q_load_part (by rfl) 30 _ rfl (w.heap.size + 1) (0) rfl _ (B) _ 5 (hgo) Try.underlying30 rfl (by kernel_rfl) (by rw [HB.out.size]; omega) (B) (HEX.out) ?_; try simp only [Act.put, List.setIfInBounds_toArray, List.set_cons_zero, List.set_cons_succ]) | ((with_reducible refine at_qcall 26 ?_); refine q_call_below _ 26 _ (by rfl) (CM.out) (fun wq hbq => by go_simp) ?_; try simp only [Act.put, List.setIfInBounds_toArray, List.set_cons_zero, List.set_cons_succ]) | ((with_reducible apply q_val); (case hw => rfl); (case hv => intro wq hbq; have hcq := cellF (Ytmjfbilhalkegaa.kept hbq hgo); have hcr := cellF (Ytmjfbilhalkegaa.kept hbq hg2); have hcs := cellF (Ytmjfbilhalkegaa.kept hbq hgs); go_simp; try rfl); (try simp only [Act.put, List.setIfInBounds_toArray, List.set_cons_zero, List.set_cons_succ])))
  refine q_nil ?_
  intro w6 hb6
  have hb62 := below_then hb2 hb6
  have hS6 := HS.out.kept hb62
  have hgo6 := Ytmjfbilhalkegaa.kept hb6 hgo
  have hgs6 := Ytmjfbilhalkegaa.kept hb6 hgs
  have hg6 := Ytmjfbilhalkegaa.kept hb6 hg2
  have ca := sat_any (N B 0) hS6
  rw [HAT.out] at ca
  clear hS2 hg2 hgo hgs
  have co := cellF hgo6
  have cs := cellF hgs6
  have hmf : ∀ (fn : Fn) (first cap : Array Value) (w : World), (Instr.makeFunc fn first cap).run Try.prog w = .ok (.func fn first cap) w := fun _ _ _ _ => rfl
  go_wp2_with ((go_at_call 48; (with_reducible refine (ca).mono ?_); rintro e w7 ⟨rfl, hb7⟩; have cs7 := cellF (Ytmjfbilhalkegaa.kept hb7 hgs6); have cg7 := cellF (Ytmjfbilhalkegaa.kept hb7 hg6)))
  go_ret
  exact ⟨rfl, below_then hb62 hb7⟩
/-- Add of whatever order -/
theorem sadd_any {w : World} {g base k : Nat} {L : Nat → Array Value} {B : Array Value} {buy : Bool} (h : SideIs w g base k buy L) (hB : IsOrd B) :
    Calls Try.prog 43 #[.pointer (some ⟨g, 0, none⟩), .agg B] w fun e w' => ∃ r : Int, e = .returned (.int .i64 r) ∧ ((r ≠ 0 ∧ Below w.heap.size w w') ∨
      (r = 0 ∧ okO B = true ∧ Bo B 2 = buy ∧ (∀ i, i < k → N (L i) 0 ≠ N B 0) ∧ k < 100 ∧ SideIs w' g base (k + 1) buy (ins L (plc buy L B k) B) ∧ Below base w w' ∧ Ko g w w')) := by
  by_cases ho : okO B = true
  · by_cases hb : Bo B 2 = buy
    · by_cases ha : fi (fun i => decide (N (L i) 0 = N B 0)) k = -1
      · by_cases hk : k < 100
        · have hfr : ∀ i, i < k → N (L i) 0 ≠ N B 0 := fun i hi => by simpa using fi_none k ha i hi
          exact (sadd_ok buy h hB ho hb hfr hk).mono fun e w' ⟨h1, h2⟩ => ⟨0, h1, .inr ⟨rfl, ho, hb, hfr, hk, h2⟩⟩
        · exact (sadd_full buy h hB ho hb ha (by omega)).mono fun e w' ⟨h1, h2⟩ => ⟨9, h1, .inl ⟨by decide, h2⟩⟩
      · have := fi_bd (q := fun i => decide (N (L i) 0 = N B 0)) k
        exact (sadd_twice buy h hB ho hb (by omega)).mono fun e w' ⟨h1, h2⟩ => ⟨8, h1, .inl ⟨by decide, h2⟩⟩
    · exact (sadd_wrong buy h hB ho hb).mono fun e w' ⟨h1, h2⟩ => ⟨2, h1, .inl ⟨by decide, h2⟩⟩
  · exact (sadd_bad buy h hB (by simpa using ho)).mono fun e w' ⟨h1, h2⟩ => ⟨2, h1, .inl ⟨by decide, h2⟩⟩
set_option maxRecDepth 100000 in
theorem sbest_zero {w : World} {g base : Nat} {buy : Bool} {L : Nat → Array Value} (h : SideIs w g base 0 buy L) : Calls Try.prog 40 #[.pointer (some ⟨g, 0, none⟩)] w fun e w' => e = .returned (.tuple #[.agg zo, .bool false]) ∧ Below w.heap.size w w' := by
  have hb := below_new w (Obj.cells zo 30)
  have hc := heap_alloc_new w (Obj.cells zo 30)
  have h1 := h.kept hb
  have cr := sready_yes h1
  obtain ⟨v, hg, hrow⟩ := h1.row
  obtain ⟨ra, rc, rfl, _⟩ := own_rows (c := 5) (fun i => (h1.ord i).size) hrow
  have cg := cellF hg
  have HZ := Lib.hid zo_size
  have HA := Lib.hid zo_all
  clear hrow h1 h
  go_enter Try.func40, Try.ntmps40
  go_wp2_with (first | ((with_reducible refine at_alloc 30 ?_); refine wpList_alloc_named rfl 30 rfl zo (by kernel_rfl) ?_) | (go_at_call 39; (with_reducible refine (cr).mono ?_); rintro e w1 ⟨rfl, rfl⟩) | ((with_reducible refine at_build 30 ?_); refine wpList_build_named rfl 30 _ rfl zo (by kernel_rfl) ?_) | ((with_reducible refine at_store 30 ?_); refine wpList_store_over rfl 30 _ _ rfl (w.heap.size) (zo) rfl rfl _ _ (hc) (by rw [HZ.out]; kernel_rfl) (rfl) (HA.out) ?_; intro w3 hg3 hs3 ho3 hb3))
  exact post_cell_tmp (g := w.heap.size) (t := 30) (v := .bool false) rfl rfl rfl rfl hg3 Try.underlying30 rfl (by rw [HZ.out]; kernel_rfl) ⟨rfl, hb.trans (hb3 _ (Nat.le_refl _))⟩
end Go.Proofs.Ytmjfbilhalkegaa
/-! slices.Clone of orders. No condition. -/
namespace Go.Proofs.Ytmjfbilhalkegaa
set_option linter.unusedVariables false
set_option linter.unusedSimpArgs false
open Go.RowKit Go.Deep

theorem at_append31 (T : TypeId) {P : Program} {ops : Array Oper} {Q : Exit → Act → World → Prop} {rest : List Oper} {a : Act} {w : World} {d : Option Tmp} {x y : Operand} {ty : TypeId} {pos : String} {af : Array Edge} {gd : Option (Nat × Bool)}
    (h : wpList P ops Q (⟨d, .call { callee := .builtin .append, args := #[x, y], argTypes := #[T, T] }, ty, pos, af, gd⟩ :: rest) a w) : wpList P ops Q (⟨d, .call { callee := .builtin .append, args := #[x, y], argTypes := #[T, T] }, ty, pos, af, gd⟩ :: rest) a w := h
theorem own_empty_t (W : World) (e : TypeId) (c : Nat) : (W.alloc (.cells #[] e)).ownsRow W.heap.size e c (.slice (some ⟨W.heap.size, 0, none⟩) 0 0) 0 [] :=
  ⟨by simp, .inr ⟨W.heap.size, 0, #[], rfl, Nat.le_refl _, heap_alloc_new _ _, Nat.le_refl _, by unfold maxLen; omega, by simp, by simp⟩⟩
theorem rows_ty {w : World} {t : TypeId} {c n : Nat} {a : Option Addr} {L : Nat → Array Value} (h : RowsT w t c a n L) : ∀ i, i < n → ∃ g off A t' fr, a = some (⟨g, off, none⟩ : Addr) ∧ w.heap[g]? = some (.cells A t' fr) ∧ off + i * c + c ≤ A.size ∧ A.extract (off + i * c) (off + i * c + c) = L i := fun i hi => by
  obtain ⟨g, off, A, fr, h1, h2, h3, h4⟩ := h i hi
  exact ⟨g, off, A, t, fr, h1, h2, h3, h4⟩
set_option maxHeartbeats 1000000 in
theorem sclone_any (ra : Option Addr) (rc k : Nat) (L : Nat → Array Value) (w : World) (hL : ∀ i, IsOrd (L i)) (hR : RowsT w 30 5 ra k L) (hk : k ≤ 1000) (hz : ra = none → k = 0 ∧ rc = 0) :
    Calls Try.prog 46 #[.slice ra k rc] w fun e w' => ∃ v', e = .returned v' ∧ w'.ownsRow w.heap.size 30 5 v' k (flat L k) ∧ Below w.heap.size w w' := by
  have q22 : ∀ (w : World) (a : Option Addr) (n c n' c' : Nat), (binOp .eql 35 (.slice a n c) (.slice none n' c')).run Try.prog w = .ok (.bool a.isNone) w := fun w a n c n' c' => Lib.run_eql_slice_nil w _ _ a n c n' c' Try.underlying35
  cases ra with
  | none =>
    obtain ⟨rfl, rfl⟩ := hz rfl
    go_enter Try.func46, Try.ntmps46
    go_wp2
    go_ret
    exact ⟨_, rfl, World.ownsRow_nil _ _ _ _, Below.refl _ _⟩
  | some ad =>
    have HR := Lib.hid hR
    have HL := Lib.hid hL
    clear hR hL hz
    obtain ⟨i, z, h1, h2, h3, h4, h5⟩ := info_ord
    have HI := Lib.hid (And.intro h1 (And.intro h2 (And.intro h3 (And.intro h4 h5))))
    clear h1 h2 h3 h4 h5
    have hbn := below_new w (Obj.cells #[] 30)
    go_enter Try.func46, Try.ntmps46
    go_wp2_with (((with_reducible refine at_append31 35 ?_); refine wpList_append_own _ rfl _ _ _ rfl w.heap.size _ i z 5 i.bytes Try.underlying35 HI.out.1 HI.out.2.1 HI.out.2.2.1 rfl HI.out.2.2.2.2 (by omega) _ 0 [] rfl (own_empty_t w _ _) ad k rc (flat L k) rfl (flatc_len (fun i => (HL.out i).size) k) (rows_at (by omega) (fun i => (HL.out i).size) (rows_ty (rowsT_kept HR.out hbn))) (flatc_one (fun i => (HL.out i).all) k) (by unfold maxLen; omega) (by have := HI.out.2.2.2.1; have := Nat.mul_le_mul (show 0 + k ≤ 1000 by omega) this; omega) (by simp) ?_; intro v' w' h6 h7 _))
    rw [Nat.zero_add, List.nil_append] at h6
    go_ret
    exact ⟨_, rfl, h6, hbn.grown h7 (by simp) (fun j e => by have e : w.heap.size = j := Option.some.inj e; omega)⟩
end Go.Proofs.Ytmjfbilhalkegaa
/-! A range over a function whose rounds never come: the plain walk goes on behind it. No condition. -/
namespace Go.Proofs.Ytmjfbilhalkegaa
set_option linter.unusedVariables false
set_option linter.unusedSimpArgs false
open Go.RowKit Go.Shelf

/-- a function whose body holds ranges over functions, from its body -/
theorem calls_marks {P : Program} {f : FuncId} {fn : Func} {c : Code} {args : Array Value} {w : World} {R : Ending → World → Prop} (hf : P.funcs[f]? = some fn) (hb : fn.body = some c)
    (h : c.wp P (bodyPostM Fence.wide 9 P fn R) { tmps := args ++ Array.replicate (fn.ntmps - args.size) undef, defers := [] } w) : Calls P f args w R :=
  callsIn_wide.1 (callsIn_of_wp_marks hf hb trivial (wpIn_wide.2 h) rfl)
theorem range_none {P : Program} {g : Operand} {ps : Array Tmp} {assign body : Code} {Q : Exit → Act → World → Prop} {a : Act} {w : World} {gf : Nat} {lb : Array Value} (hg : a.eval g = .func (.func gf) #[] lb) (eg : ∀ args w, (callFunc gf args).run P w = .ok (.enter gf args) w)
    (hit : ∀ l W, Below w.heap.size w W → Calls P gf (#[.func (.yield l) #[] #[]] ++ lb) W fun e W' => (∃ v, e = .returned v) ∧ W = W')
    (hdone : ∀ D W, w.heap.size ≤ D → Below w.heap.size w W → W.heap[D]? = some (.deferred (some [])) → Q .normal { a with defers := { target := .collected D, args := #[] } :: a.defers } W) :
    (Code.rangeFunc g ps assign body).wp P Q a w := by
  refine (wpIn_wide (n := 9)).1 ?_
  refine wpIn_rangeFunc_ownF (α := Empty) (F := Fence.wide) rfl (by omega) hg trivial eg (encs := fun x => x.elim) (Kp := fun _ _ => True) (S := fun _ => True) (Sp := fun _ => False) (N := 0) (w0 := w) ?_ (fun _ _ => trivial) (fun _ _ _ _ _ _ _ _ => trivial) (Below.refl _ _) (fun x => x.elim)
    (fun _ W => Below w.heap.size w W) (fun _ _ _ => False) (ownFrom_below (Nat.le_refl _) (Nat.le_refl _)) (fun _ _ _ _ _ h => h.elim) (Below.refl _ _) (fun x => x.elim) (fun _ x => x.elim) (fun _ _ x => x.elim)
    (fun D xs W h1 _ h2 h3 => hdone D W h1 h2 h3) (fun D c pre W _ h => h.elim)
  intro l J Jx W hW hJ hJx hY h0
  refine callsIn_wide.2 ((hit l W hW).mono fun e W' ⟨h1, h2⟩ => ?_)
  subst h2
  exact ⟨h1, .inl ⟨[], trivial, h0⟩⟩
theorem leaves_cons {P : Program} {fn : Func} {tmps : Array Value} {R : Ending → World → Prop} {D : Nat} {ds : List Deferred} {w : World} (hK : w.heap[D]? = some (.deferred (some [])))
    (h : LeavesInM Fence.wide 9 P fn tmps R ds .returning (w.putObj D (.deferred none))) : LeavesInM Fence.wide 9 P fn tmps R ({ target := .collected D, args := #[] } :: ds) .returning w :=
  ⟨by simp, .inl ⟨_, _, rfl, run_takeDeferred hK, h⟩⟩
theorem leaves_nil {P : Program} {fn : Func} {tmps : Array Value} {R : Ending → World → Prop} {w : World} {v : Value} (h : (results fn tmps).run P w = .ok v w) (hR : R (.returned v) w) : LeavesInM Fence.wide 9 P fn tmps R [] .returning w := ⟨v, h, hR⟩
/-- the collected block is done with -/
theorem below_put {w W : World} {B D : Nat} {o o' : Obj} (h : Below B w W) (hB : B ≤ D) (hD : W.heap[D]? = some o) (hs : B ≤ w.heap.size) : Below B w (W.putObj D o') :=
  h.grown (grownBy_putObj' W D o') (Nat.le_trans hs h.size) (fun k e => by cases e; exact hB)
theorem put_other {W : World} {D k : Nat} {o o' x : Obj} (hD : W.heap[D]? = some o) (h : W.heap[k]? = some x) (hne : k ≠ D) : (W.putObj D o').heap[k]? = some x :=
  ((grownBy_putObj' W D o').block k (Array.getElem?_eq_some_iff.1 h).1 (fun e => hne (by injection e))).trans h
end Go.Proofs.Ytmjfbilhalkegaa
/-! Reach of a side that is not there, or was not made: a range over a function whose rounds never come. No condition. -/
namespace Go.Proofs.Ytmjfbilhalkegaa
set_option linter.unusedVariables false
set_option linter.unusedSimpArgs false
open Go.RowKit Go.Shelf

theorem sall1_no {W : World} {gb l : Nat} {p : Option Addr} (hb : W.heap[gb]? = some (.cells #[.pointer p] 54 (0, 0))) (h : NoS W p) :
    Calls Try.prog 47 #[.func (.yield l) #[] #[], .pointer (some ⟨gb, 0, none⟩)] W fun e W' => (∃ v, e = .returned v) ∧ W = W' := by
  have cb := cellF hb
  go_enter Try.func47, Try.ntmps47
  go_wp2_with ((go_at_call 39; (with_reducible refine (sready_no h).mono ?_); rintro e w1 ⟨rfl, rfl⟩))
  exact bodyPost_ret (results_none rfl _ _ _) rfl ⟨⟨_, rfl⟩, rfl⟩
set_option maxRecDepth 100000 in
set_option maxHeartbeats 4000000 in
theorem sreach_no {w : World} {p : Option Addr} (x n : Int) (h : NoS w p) : Calls Try.prog 29 #[.pointer p, .int .i64 x, .int .u32 n] w fun e w' => e = .returned (.int .i64 0) ∧ Below w.heap.size w w' := by
  refine calls_marks Try.func29 rfl ?_
  simp only [Try.ntmps29, List.size_toArray, List.length_cons, List.length_nil, Nat.reduceAdd, Nat.reduceSub, Array.replicate_succ, Array.replicate_zero, List.push_toArray, List.append_toArray, List.nil_append, List.cons_append]
  go_wp2_with ((go_at_call 36; (with_reducible refine (sall_any _).mono ?_); rintro e w6 ⟨rfl, rfl⟩))
  have hB5 : Below w.heap.size w (((((w.alloc (Obj.cells #[Value.pointer p] 54)).alloc (Obj.cells #[Value.int IntKind.i64 x] 2)).alloc (Obj.cells #[Value.int IntKind.u32 n] 28)).alloc (Obj.cells #[Value.int IntKind.i64 0] 2)).alloc (Obj.cells #[Value.pointer p] 54)) := below_alloc (below_alloc (below_alloc (below_alloc (below_new _ _) _) _) _) _
  have h6 : (((((w.alloc (Obj.cells #[Value.pointer p] 54)).alloc (Obj.cells #[Value.int IntKind.i64 x] 2)).alloc (Obj.cells #[Value.int IntKind.u32 n] 28)).alloc (Obj.cells #[Value.int IntKind.i64 0] 2)).alloc (Obj.cells #[Value.pointer p] 54)).heap[w.heap.size + 1 + 1 + 1]? = some (.cells #[Value.int IntKind.i64 0] 2 (0, 0)) := by repeat (first | exact heap_new (by simp; done) | refine heap_up ?_)
  have hbox : (((((w.alloc (Obj.cells #[Value.pointer p] 54)).alloc (Obj.cells #[Value.int IntKind.i64 x] 2)).alloc (Obj.cells #[Value.int IntKind.u32 n] 28)).alloc (Obj.cells #[Value.int IntKind.i64 0] 2)).alloc (Obj.cells #[Value.pointer p] 54)).heap[w.heap.size + 1 + 1 + 1 + 1]? = some (.cells #[Value.pointer p] 54 (0, 0)) := by repeat (first | exact heap_new (by simp; done) | refine heap_up ?_)
  have hs5 : (((((w.alloc (Obj.cells #[Value.pointer p] 54)).alloc (Obj.cells #[Value.int IntKind.i64 x] 2)).alloc (Obj.cells #[Value.int IntKind.u32 n] 28)).alloc (Obj.cells #[Value.int IntKind.i64 0] 2)).alloc (Obj.cells #[Value.pointer p] 54)).heap.size = w.heap.size + 5 := by simp
  have hP5 := h.kept hB5
  obtain ⟨w5, hw5⟩ : ∃ w5, w5 = (((((w.alloc (Obj.cells #[Value.pointer p] 54)).alloc (Obj.cells #[Value.int IntKind.i64 x] 2)).alloc (Obj.cells #[Value.int IntKind.u32 n] 28)).alloc (Obj.cells #[Value.int IntKind.i64 0] 2)).alloc (Obj.cells #[Value.pointer p] 54)) := ⟨_, rfl⟩
  rw [← hw5] at hB5 h6 hbox hs5 hP5 ⊢
  clear hw5
  refine range_none (gf := 47) (lb := #[.pointer (some ⟨w.heap.size + 1 + 1 + 1 + 1, 0, none⟩)]) rfl (enters_of Try.func47 (by kernel_rfl) rfl) (fun l W hW => sall1_no (Ytmjfbilhalkegaa.kept hW hbox) (hP5.kept hW)) (fun D W hD hWB hK => ?_)
  have h6W := Ytmjfbilhalkegaa.kept hWB h6
  have c6 := cellF h6W
  have f6 := (cells_of h6W).2.1
  have hne : D ≠ w.heap.size + 1 + 1 + 1 := by omega
  have hz := heap_set_other (g := w.heap.size + 1 + 1 + 1) (i := 0) (v := .int .i64 0) hK hne
  have hz6 := heap_set (i := 0) (v := .int .i64 0) h6W
  have hBz := below_set (g := w.heap.size + 1 + 1 + 1) (i := 0) (v := .int .i64 0) (below_then hB5 hWB) (by omega)
  go_wp2_with fail
  refine leaves_cons hz ?_
  have hc := cellF (put_other (o' := .deferred none) hz hz6 (Ne.symm hne)) 0
  refine leaves_nil (v := .int .i64 0) ?_ ⟨rfl, below_put hBz (by omega) hz (Nat.le_refl _)⟩
  simp [results, Try.f29, go_sem, hc]
end Go.Proofs.Ytmjfbilhalkegaa
/-! What a loop's body over a function keeps: every block of cells that lay from s on. No condition. -/
namespace Go.Proofs.Ytmjfbilhalkegaa
set_option linter.unusedVariables false
set_option linter.unusedSimpArgs false
open Go.RowKit Go.Shelf

/-- every block of cells from s on stays -/
def Kn (s : Nat) (A B : World) : Prop := ∀ i c t fr, s ≤ i → A.heap[i]? = some (.cells c t fr) → B.heap[i]? = some (.cells c t fr)
theorem Kn.trans {s : Nat} {A B C : World} (h1 : Kn s A B) (h2 : Kn s B C) : Kn s A C := fun i c t fr hi h => h2 i c t fr hi (h1 i c t fr hi h)
theorem Kn.refl (s : Nat) (A : World) : Kn s A A := fun _ _ _ _ _ h => h
theorem kn_put {s : Nat} (W : World) (l : Nat) (o o' : Obj) (hl : W.heap[l]? = some o) (ho : o.isCells = false) : Kn s W (W.putObj l o') := fun i c t fr _ h => by
  refine put_other (o := o) (o' := o') hl h (fun e => ?_)
  subst e
  rw [hl] at h
  injection h with h
  rw [h] at ho
  exact absurd ho (by simp [Obj.isCells])
theorem kn_below {s : Nat} {A B : World} (h : Below A.heap.size A B) : Kn s A B := fun i c t fr _ h1 => Ytmjfbilhalkegaa.kept h h1
theorem kn_set {s : Nat} {A B : World} {g : Nat} (hg : g < s) (h : ∀ k, k ≠ g → B.heap[k]? = A.heap[k]?) : Kn s A B := fun i c t fr hi h1 => (h i (by omega)).trans h1
theorem abides_below {J : Nat → World → Prop} {B : Nat} (hJ : AbidesFrom B J) {xs : Nat} {W W' : World} (h : J xs W) (hg : W.grownBy W' none) : J xs W' := hJ xs W W' none h hg (fun _ e => by cases e)
theorem grownBy_of_below {W W' : World} (h : Below W.heap.size W W') : W.grownBy W' none := ⟨h.os, h.tape, h.output, h.size, fun k hk _ => h.block k hk⟩
end Go.Proofs.Ytmjfbilhalkegaa
/-! A range over a function whose rounds come: the plain walk goes on behind it. The loop's variable may be a new block in each round. No condition. -/
namespace Go.Proofs.Ytmjfbilhalkegaa
set_option linter.unusedVariables false
set_option linter.unusedSimpArgs false
open Go.RowKit Go.Shelf

/-- the iterator gf yields encs 0, encs 1, .. up to k, unless it is stopped -/
def SeqK (P : Program) (gf : Nat) (lb : Array Value) (encs : Nat → Array Value) (k s : Nat) (w : World) : Prop :=
  ∀ (l : Nat) (J Jx : Nat → World → Prop) (W : World), Below w.heap.size w W → AbidesFrom W.heap.size J → AbidesFrom W.heap.size Jx →
    (∀ j W1, j < k → J j W1 → YieldAt Fence.wide 7 P l (encs j) W1 fun e W' => (e = .returned (.bool true) ∧ J (j + 1) W' ∧ Kn s W1 W') ∨ (e = .returned (.bool false) ∧ Jx (j + 1) W')) →
    J 0 W → CallsIn Fence.wide 8 P gf (#[.func (.yield l) #[] #[]] ++ lb) W fun e W' => (∃ v, e = .returned v) ∧ (J k W' ∨ ∃ j, j ≤ k ∧ Jx j W')

/-- how a round may end -/
def rndPost (s : Nat) (I : Nat → World → Prop) (Ix : Code → Nat → World → Prop) (j : Nat) (W : World) : Exit → Act → World → Prop
  | .normal, _, W' => KeepsOthers W W' ∧ Kn s W W' ∧ I (j + 1) W'
  | .ret, _, W' => KeepsOthers W W' ∧ Ix .ret (j + 1) W'
  | .exit id, _, W' => KeepsOthers W W' ∧ Ix (.exit id) (j + 1) W'
  | .goto t, _, W' => KeepsOthers W W' ∧ Ix (.goto t) (j + 1) W'
  | .panic _, _, _ => False
  | .outgrown, _, _ => False

/-- the book-keeping's two blocks -/
def Books (s : Nat) (r : Loop) (W : World) : Prop := W.heap[s + 1]? = some (.loop r) ∧ W.heap[s]? = some (.deferred (some []))
theorem Books.keep {s : Nat} {r : Loop} {W W' : World} (h : Books s r W) (hk : KeepsOthers W W') : Books s r W' := ⟨hk.same _ _ h.1 rfl, hk.same _ _ h.2 rfl⟩
theorem Books.put {s : Nat} {r : Loop} (r' : Loop) {W : World} (h : Books s r W) : Books s r' (W.putObj (s + 1) (.loop r')) :=
  ⟨World.putObj_heap_same (Array.getElem?_eq_some_iff.1 h.1).1, (World.putObj_heap_other (by omega)).trans h.2⟩
theorem Books.grown {s : Nat} {r : Loop} {W W' : World} {row : Option Nat} (h : Books s r W) (hg : W.grownBy W' row) (hr : ∀ i, row = some i → s + 2 ≤ i) : Books s r W' :=
  ⟨(hg.block _ (Array.getElem?_eq_some_iff.1 h.1).1 (fun e => by have := hr _ e.symm; omega)).trans h.1, (hg.block _ (Array.getElem?_eq_some_iff.1 h.2).1 (fun e => by have := hr _ e.symm; omega)).trans h.2⟩

theorem range_rounds {P : Program} {g : Operand} {ps : Array Tmp} {assign body : Code} {Q : Exit → Act → World → Prop} {a : Act} {w : World} {gf : Nat} {lb : Array Value} {encs : Nat → Array Value} {k : Nat}
    (hg : a.eval g = .func (.func gf) #[] lb) (eg : ∀ args w, (callFunc gf args).run P w = .ok (.enter gf args) w) (hps : ∀ x, (encs x).size = ps.size) (hit : SeqK P gf lb encs k w.heap.size w)
    (I : Nat → World → Prop) (Ix : Code → Nat → World → Prop) (hI : OwnFrom w.heap.size I) (hIx : ∀ c, OwnFrom w.heap.size (Ix c)) (h0 : I 0 w)
    (up : Nat → World → World) (hup : ∀ (j : Nat) (W : World), W.grownBy (up j W) none) (a₁ : Nat → World → Act)
    (hassign : ∀ l j W (K : Act → World → Prop), j < k → K (a₁ j W) (up j W) → assign.wpIn (Fence.wide.inRound l) 7 P (Exit.then K (fun _ _ _ => False)) { tmps := (ps.zip (encs j)).foldl (fun t (p, v) => t.setIfInBounds p v) a.tmps, defers := [] } W)
    (hbody : ∀ (l j : Nat) (W0 W : World), j < k → I j W → w.heap.size ≤ W0.heap.size → (∀ (i : Nat) c t fr, (up j W0).heap[i]? = some (Obj.cells c t fr) → W.heap[i]? = some (Obj.cells c t fr)) → W.heap.size = (up j W0).heap.size → body.wpIn (Fence.wide.inRound l) 7 P (rndPost w.heap.size I Ix j W) (a₁ j W0) W)
    (hdone : ∀ D W, w.heap.size ≤ D → I k W → W.heap[D]? = some (.deferred (some [])) → Q .normal { a with defers := { target := .collected D, args := #[] } :: a.defers } W)
    (hstop : ∀ D c j W, w.heap.size ≤ D → j ≤ k → Ix c j W → W.heap[D]? = some (.deferred (some [])) → c.wp P Q { a with defers := { target := .collected D, args := #[] } :: a.defers } W) :
    (Code.rangeFunc g ps assign body).wp P Q a w := by
  refine (wpIn_wide (n := 9)).1 (wpIn_rangeFunc fun fn _ => ?_)
  obtain ⟨R, hR⟩ : ∃ R : LoopState → Option Code → Loop, R = fun st pe => { state := st, pending := pe, fn, tmps := a.tmps, params := ps, assign, body, defers := w.heap.size } := ⟨_, rfl⟩
  have r1 : ∀ st pe, (R st pe).state = st := fun _ _ => by rw [hR]
  have r2 : ∀ st pe st' pe', { R st pe with state := st', pending := pe' } = R st' pe' := fun _ _ _ _ => by rw [hR]
  have r3 : ∀ st pe st', { R st pe with state := st' } = R st' pe := fun _ _ _ => by rw [hR]
  obtain ⟨W1, hW1⟩ : ∃ W1, W1 = (w.alloc (.deferred (some []))).alloc (.loop (R .ready none)) := ⟨_, rfl⟩
  have hsz : W1.heap.size = w.heap.size + 2 := by rw [hW1]; simp
  have hbk : Books w.heap.size (R .ready none) W1 := by
    rw [hW1]
    refine ⟨?_, (Below.heap_alloc _ _ _ (by simp)).trans (World.alloc_heap_new w _)⟩
    have := World.alloc_heap_new (w.alloc (.deferred (some []))) (.loop (R .ready none))
    rwa [World.size_alloc] at this
  have hI1 : I 0 W1 := by rw [hW1]; exact hI.alloc _ (hI.alloc _ h0)
  have hb1 : Below w.heap.size w W1 := by rw [hW1]; exact (((Below.refl _ w).alloc (Nat.le_refl _) _).alloc (by simp) _)
  have turn : ∀ {A : World} {row : Option Nat}, (∀ i, row = some i → W1.heap.size ≤ i ∧ ∃ o : Obj, A.heap[i]? = some o ∧ o.isWalk = true) → ∀ i, row = some i → w.heap.size ≤ i ∧ ∃ o : Obj, A.heap[i]? = some o ∧ o.isCells = false := fun h i e => by
    obtain ⟨h1, o, h2, h3⟩ := h i e
    exact ⟨by omega, o, h2, Obj.not_cells_of_walk h3⟩
  refine ⟨w.heap.size + 1, [{ target := .collected w.heap.size, args := #[] }], W1, { target := .fn (.func gf) lb, args := #[.func (.yield (w.heap.size + 1)) #[] #[]] }, W1, gf,
    #[.func (.yield (w.heap.size + 1)) #[] #[]] ++ lb, W1, ?_, ?_, fun _ _ => trivial, ?_, by simp, ?_⟩
  · rw [hW1, hR]; exact run_enterLoop_outer _ _ _ _ _
  · simp only [resolve, hg]
    simp [go_sem]
  · simp [invoke, go_sem, eg]
  refine (hit (w.heap.size + 1) (fun j W => I j W ∧ Books w.heap.size (R .ready none) W) (fun j W => ∃ c, Ix c j W ∧ Books w.heap.size (R .done (some c)) W) W1 hb1
    (fun j A B row h hg' hr => ⟨hI j A B row h.1 hg' (turn (A := A) hr), h.2.grown hg' (fun i e => by have := (hr i e).1; omega)⟩)
    (fun j A B row ⟨c, h1, h2⟩ hg' hr => ⟨c, hIx c j A B row h1 hg' (turn (A := A) hr), h2.grown hg' (fun i e => by have := (hr i e).1; omega)⟩)
    (fun j W hj ⟨hi, hb⟩ => ?_) ⟨hI1, hbk⟩).mono ?_
  · have hy := run_yield (P := P) (args := encs j) hb.1 (by rw [hR]; exact hps j)
    rw [hR] at hy
    have hgu := hup j W
    have hbu := hb.grown (row := none) hgu (fun i e => by cases e)
    have hiu := hI j W _ none hi hgu (fun i e => by cases e)
    have hlt := (Array.getElem?_eq_some_iff.1 hb.1).1
    refine ⟨fn, _, assign, body, hy, roundIn_of_wpIn trivial (hassign _ j W _ hj ⟨_, run_beginRound hbu.1 (r1 _ _), ?_⟩)⟩
    rw [r3]
    have hk1 : Kn w.heap.size W ((up j W).putObj (w.heap.size + 1) (.loop (R .busy none))) :=
      Kn.trans (fun i c t fr _ h => (hgu.block i (Array.getElem?_eq_some_iff.1 h).1 (by simp)).trans h) (kn_put _ _ _ _ hbu.1 rfl)
    have hiv := hI.putObj (.loop (R .busy none)) hiu (by omega) hbu.1 rfl
    have hbv := hbu.put (R .busy none)
    have fin : ∀ (c : Option Code) (W3 : World), KeepsOthers ((up j W).putObj (w.heap.size + 1) (.loop (R .busy none))) W3 →
        (Instr.endRound (w.heap.size + 1) c).run P W3 = .ok (.bool c.isNone) (W3.putObj (w.heap.size + 1) (.loop (R (if c.isNone then .ready else .done) c))) ∧ Books w.heap.size (R .busy none) W3 := fun c W3 hk => by
      have h3 := hbv.keep hk
      have := run_endRound (P := P) c h3.1
      rw [r2] at this
      exact ⟨this, h3⟩
    refine wpIn_mono (hbody _ j W _ hj hiv (by omega) (fun i c t fr h => put_other hbu.1 h (fun e => by subst e; rw [hbu.1] at h; cases h)) (by simp)) ?_
    have out : ∀ (c : Code) (W3 : World), KeepsOthers ((up j W).putObj (w.heap.size + 1) (.loop (R .busy none))) W3 → Ix c (j + 1) W3 → ∃ v w', (Instr.endRound (w.heap.size + 1) (some c)).run P W3 = .ok v w' ∧
        ((Ending.returned v = .returned (.bool true) ∧ (I (j + 1) w' ∧ Books w.heap.size (R .ready none) w') ∧ Kn w.heap.size W w') ∨ (Ending.returned v = .returned (.bool false) ∧ ∃ c', Ix c' (j + 1) w' ∧ Books w.heap.size (R .done (some c')) w')) := fun c W3 hk hx => by
      obtain ⟨hr, h3⟩ := fin (some c) W3 hk
      exact ⟨_, _, hr, .inr ⟨rfl, c, (hIx c).putObj _ hx (by omega) h3.1 rfl, h3.put _⟩⟩
    rintro e a3 W3 hp
    cases e with
    | normal =>
      obtain ⟨hk, hkn, hi3⟩ := hp
      obtain ⟨hr, h3⟩ := fin none W3 hk
      exact ⟨_, _, hr, .inl ⟨rfl, ⟨hI.putObj _ hi3 (by omega) h3.1 rfl, h3.put _⟩, (hk1.trans hkn).trans (kn_put _ _ _ _ h3.1 rfl)⟩⟩
    | ret => exact out .ret W3 hp.1 hp.2
    | exit id => exact out (.exit id) W3 hp.1 hp.2
    | goto t => exact out (.goto t) W3 hp.1 hp.2
    | panic ch => exact hp.elim
    | outgrown => exact hp.elim
  · rintro e W2 ⟨⟨v, rfl⟩, ⟨hi, hb⟩ | ⟨j, hj, c, hx, hb⟩⟩
    · refine ⟨none, _, ?_, hdone _ _ (Nat.le_refl _) (hI.putObj (.loop (R .exhausted none)) hi (by omega) hb.1 rfl) (hb.put (R .exhausted none)).2⟩
      have := run_endLoop (P := P) hb.1 (by rw [r1]; simp)
      rw [r3] at this
      rw [this, hR]
    · refine ⟨some c, _, ?_, wpIn_wide.2 (hstop _ c j _ (Nat.le_refl _) hj ((hIx c).putObj (.loop (R .exhausted (some c))) hx (by omega) hb.1 rfl) (hb.put (R .exhausted (some c))).2)⟩
      have := run_endLoop (P := P) hb.1 (by rw [r1]; simp)
      rw [r3] at this
      rw [this, hR]
end Go.Proofs.Ytmjfbilhalkegaa
/-! Loads, stores and new variables of whole structs inside a fence. No condition. -/
namespace Go.Proofs.Ytmjfbilhalkegaa
set_option linter.unusedVariables false
set_option linter.unusedSimpArgs false
open Go.RowKit
section
variable {P : Program} {F : Fence} {n : Nat} {ops : Array Oper} {rest : List Oper} {o : Oper} {a : Act} {w : World} {Q : Exit → Act → World → Prop}
theorem at_loadIn (T : TypeId) {d : Option Tmp} {x : Operand} {ty : TypeId} {pos : String} {af : Array Edge} {gd : Option (Nat × Bool)}
    (h : wpListIn F n P ops Q (⟨d, .load T x, ty, pos, af, gd⟩ :: rest) a w) : wpListIn F n P ops Q (⟨d, .load T x, ty, pos, af, gd⟩ :: rest) a w := h
theorem at_storeIn (T : TypeId) {d : Option Tmp} {x y : Operand} {ty : TypeId} {pos : String} {af : Array Edge} {gd : Option (Nat × Bool)}
    (h : wpListIn F n P ops Q (⟨d, .store T x y, ty, pos, af, gd⟩ :: rest) a w) : wpListIn F n P ops Q (⟨d, .store T x y, ty, pos, af, gd⟩ :: rest) a w := h
theorem sem_at {r : Option Nat} (ρ : Operand → Value) (o : Oper) (h : ∀ c, o.op ≠ .defer c) : o.semAt r ρ = execOp ρ o := by
  cases r with
  | none => exact Oper.semAt_none ..
  | some l => exact Oper.semAt_some l ρ o h
theorem wpIn_of_run {K : Act → World → Prop} (hd : ∀ c, o.op ≠ .defer c) (ha : o.about P w a.eval = none) {v : Value} {w1 : World} (hw : (execOp a.eval o).run P w = .ok (.value v) w1 ∨ ((execOp a.eval o).run P w = .ok .skip w1 ∧ v = undef)) (h : K (a.put o.dst v) w1) : o.wpIn F n P a w K Q := by
  unfold Oper.wpIn
  refine ⟨fun f hf => (by rw [ha] at hf; cases hf), ?_⟩
  rw [sem_at _ _ hd]
  rcases hw with e | ⟨e, rfl⟩ <;> rw [e] <;> exact h
theorem wpListIn_load_part (hgd : Region.wanted o (yielded ops a.tmps) = true) (ty : TypeId) (x : Operand) (ho : o.op = .load ty x)
    (g off : Nat) (hx : a.eval x = .pointer (some ⟨g, off, none⟩)) (t : TypeId) (cs : Array Value) (fr : Nat × Nat) (d : TypeDesc) (m : Nat) (hg : w.heap[g]? = some (.cells cs t fr))
    (hu : P.underlying ty = some d) (hd : (match d with | .struct _ | .array _ _ => true | _ => false) = true) (hi : (P.info? ty).map (·.size) = some m) (hn : off + m ≤ cs.size)
    (B : Array Value) (hB : cs.extract off (off + m) = B)
    (h : wpListIn F n P ops Q rest (a.put o.dst (.agg B)) w) : wpListIn F n P ops Q (o :: rest) a w :=
  wpListIn_step fun K hK => by
    rw [if_pos hgd]
    refine wpIn_of_run (by simp [ho]) (by unfold Oper.about; rw [ho]) (v := .agg B) (w1 := w) (.inl ?_) (hK _ _ h)
    unfold execOp
    simp only [ho, hx, Instr.loadAt, Instr.sureAddr, Sem.run_bind, Sem.run_pure, Result.andThen_ok, run_loadVar_part w g off t ty cs fr d m hg hu hd hi hn, hB]
theorem wpListIn_store_new {W : World} (hgd : Region.wanted o (yielded ops a.tmps) = true) (ty : TypeId) (x y : Operand) (ho : o.op = .store ty x y)
    (S Z : Array Value) (t : TypeId) (gn : Nat) (hx : a.eval x = .pointer (some ⟨gn, 0, none⟩)) (hgn : gn = W.heap.size) (hy : a.eval y = .agg S) (hi : (P.info? ty).map (·.size) = some S.size)
    (hold : Z.size = S.size) (h1 : S.all (·.oneCell') = true)
    (h : wpListIn F n P ops Q rest (a.put o.dst undef) (W.alloc (.cells S t))) : wpListIn F n P ops Q (o :: rest) a (W.alloc (.cells Z t)) :=
  wpListIn_step fun K hK => by
    rw [if_pos hgd]
    subst hgn
    refine wpIn_of_run (by simp [ho]) (by unfold Oper.about; rw [ho]) (v := undef) (w1 := W.alloc (.cells S t)) (.inr ⟨?_, rfl⟩) (hK _ _ h)
    unfold execOp
    simp only [ho, hx, hy, Instr.storeAt, Instr.sureAddr, Sem.run_bind, Sem.run_pure, Result.andThen_ok, run_storeVar_row _ W.heap.size t ty Z S (heap_alloc_new _ _) hi hold h1, setRow_alloc]
theorem wpListIn_alloc_named (hgd : Region.wanted o (yielded ops a.tmps) = true) (T : TypeId) (ho : o.op = .alloc T)
    (Z : Array Value) (hz : ((P.info? T).bind (·.zero)).map Value.cells = some Z)
    (h : wpListIn F n P ops Q rest (a.put o.dst (.pointer (some ⟨w.heap.size, 0, none⟩))) (w.alloc (.cells Z T))) : wpListIn F n P ops Q (o :: rest) a w :=
  wpListIn_step fun K hK => by
    rw [if_pos hgd]
    refine wpIn_of_run (by simp [ho]) (by unfold Oper.about; rw [ho]) (v := .pointer (some ⟨w.heap.size, 0, none⟩)) (w1 := w.alloc (.cells Z T)) (.inl ?_) (hK _ _ h)
    cases hq : P.info? T with
    | none => simp [hq] at hz
    | some i =>
      cases hq2 : i.zero with
      | none => simp [hq, hq2] at hz
      | some z =>
        simp [hq, hq2] at hz
        subst hz
        unfold execOp
        simp only [ho, Instr.alloc, zeroValue, typeInfo, newVar, newRow, Sem.run_bind, Sem.run_pure, run_program, Result.andThen_ok, run_newObj_alloc, hq, hq2]
theorem at_allocIn (T : TypeId) {d : Option Tmp} {ty : TypeId} {pos : String} {af : Array Edge} {gd : Option (Nat × Bool)}
    (h : wpListIn F n P ops Q (⟨d, .alloc T, ty, pos, af, gd⟩ :: rest) a w) : wpListIn F n P ops Q (⟨d, .alloc T, ty, pos, af, gd⟩ :: rest) a w := h
end
end Go.Proofs.Ytmjfbilhalkegaa
/-! All of a side that is one: the iterator's contract. Condition: the side is one. -/
namespace Go.Proofs.Ytmjfbilhalkegaa
set_option linter.unusedVariables false
set_option linter.unusedSimpArgs false
open Go.RowKit Go.Shelf
theorem own_base {w : World} {base n c : Nat} {e : TypeId} {a : Option Addr} {rc : Nat} {xs : List Value} (h : w.ownsRow base e c (.slice a n rc) n xs) : ∀ g off, a = some ⟨g, off, none⟩ → base ≤ g := by
  obtain ⟨_, ⟨hv, _⟩ | ⟨g, cap, cur, hv, hb, _⟩⟩ := h
  · injection hv with hv; subst hv; intro g off e; cases e
  · injection hv with hv; subst hv; intro g' off e; cases e; exact hb
set_option maxRecDepth 100000 in
set_option maxHeartbeats 2000000 in
theorem sall1_in {gb g base k s : Nat} {buy : Bool} {L : Nat → Array Value} (W : World) (l : Nat) (J Jx : Nat → World → Prop) (hJ : AbidesFrom W.heap.size J) (hJx : AbidesFrom W.heap.size Jx)
    (hY : ∀ j W1, j < k → J j W1 → YieldAt Fence.wide 7 Try.prog l #[.agg (L j)] W1 fun e W' => (e = .returned (.bool true) ∧ J (j + 1) W' ∧ Kn s W1 W') ∨ (e = .returned (.bool false) ∧ Jx (j + 1) W'))
    (hb : W.heap[gb]? = some (.cells #[.pointer (some ⟨g, 0, none⟩)] 54 (0, 0))) (h : SideIs W g base k buy L) (hs : s ≤ W.heap.size) (h0 : J 0 W) :
    CallsIn Fence.wide 8 Try.prog 47 #[.func (.yield l) #[] #[], .pointer (some ⟨gb, 0, none⟩)] W fun e W' => (∃ v, e = .returned v) ∧ (J k W' ∨ ∃ j, j ≤ k ∧ Jx j W') := by
  have cr := sready_yes h
  obtain ⟨v, hg, hrow⟩ := h.row
  have hk := h.hk
  have HO := Lib.hid h.ord
  obtain ⟨ra, rc, rfl, hR, _, _, hz⟩ := own_rows (c := 5) (fun i => (h.ord i).size) hrow
  have cc := sclone_any ra rc k L W h.ord hR h.hk hz
  have cb := cellF hb
  have cg := cellF hg
  refine callsIn_of_wp Try.func47 rfl trivial ?_ rfl
  simp only [Try.ntmps47, List.size_toArray, List.length_cons, List.length_nil, Nat.reduceAdd, Nat.reduceSub, Array.replicate_succ, Array.replicate_zero, List.push_toArray, List.append_toArray, List.nil_append, List.cons_append]
  gi_wp2_with (first | (refine And.intro (show Fence.wide.fn 39 from trivial) ?_; refine CallsIn.mono (callsIn_wide.2 cr) ?_; rintro e w1 ⟨rfl, rfl⟩) | (refine And.intro (show Fence.wide.fn 46 from trivial) ?_; refine CallsIn.mono (callsIn_wide.2 cc) ?_; rintro e w2 ⟨v2, rfl, ho2, hb2⟩; obtain ⟨ra2, rc2, rfl, hR2, _⟩ := own_rows (c := 5) (fun i => (HO.out i).size) ho2; have hba := own_base ho2))
  have hJ2 : J 0 w2 := abides_below hJ h0 (grownBy_of_below hb2)
  have HR2 := Lib.hid hR2
  have HB := Lib.hid hba
  clear hR2 hba ho2 hR hrow h cr cc hz cb cg hg hb
  gi_loopw [14] (fun i wr => ∃ j : Nat, j ≤ k ∧ i = .int .i64 j ∧ J j wr ∧ Kn s w2 wr)
    (fun i _ => k - (intOf i).toNat)
  case atStart => exact ⟨0, Nat.zero_le _, rfl, hJ2, Kn.refl _ _⟩
  case round =>
    obtain ⟨j, hj, rfl, hJs, hnx⟩ := hrel
    by_cases hlt : j < k
    · obtain ⟨g2, off2, A2, fr2, rfl, hg2, hn2, hx2⟩ := HR2.out j hlt
      have hg3 := hnx g2 _ _ _ (Nat.le_trans hs (HB.out g2 off2 rfl)) hg2
      have hO := HO.out j
      have hsz := hO.size
      refine wpIn_seq (wpIn_wide.2 ?_)
      go_wp2
      refine wpIn_seq (wpIn_cond_true rfl (wpIn_skip ?_))
      refine wpIn_seq (wpIn_block (wpIn_seq (wpIn_wide.2 ?_)))
      go_wp2_with (first | ((with_reducible refine at_load 30 ?_); refine wpList_load_part rfl 30 _ rfl (g2) (off2 + j * 5) rfl _ (A2) _ _ 5 (hg3) Try.underlying30 rfl (by kernel_rfl) (hn2) (L j) (hx2) ?_) | ((with_reducible refine at_alloc 30 ?_); refine wpList_alloc_named rfl 30 rfl (#[.int .u64 0, .int .u32 0, .bool false, .int .i64 0, .int .i64 0]) (by kernel_rfl) ?_) | ((with_reducible refine at_store 30 ?_); refine wpList_store_new rfl 30 _ _ rfl (L j) _ _ _ rfl (by simp) rfl (by rw [hsz]; kernel_rfl) (by rw [hsz]; rfl) (hO.all) ?_))
      have hb3 := below_new wr (Obj.cells (L j) 30)
      have hJ3 := abides_below hJ hJs (grownBy_of_below hb3)
      obtain ⟨fn, tmps, assign, body, hy, hR⟩ := hY j _ hlt hJ3
      have hex : (L j).extract 0 (0 + 5) = L j := by rw [show 0 + 5 = (L j).size by rw [hsz]]; simp
      gi_wp2_with (((with_reducible refine at_loadIn 30 ?_); refine wpListIn_load_part rfl 30 _ rfl (wr.heap.size) (0) rfl _ (L j) _ _ 5 (heap_alloc_new _ _) Try.underlying30 rfl (by kernel_rfl) (by rw [hsz]; omega) (L j) hex ?_))
      refine hR.mono ?_
      rintro e W3 (⟨rfl, hJ4, hk3⟩ | ⟨rfl, hJx3⟩)
      · gi_wp2
        go_roundw
        case rel => exact ⟨j + 1, by omega, by simp, hJ4, hnx.trans ((kn_below hb3).trans hk3)⟩
        case measure => simp [intOf]; omega
      · gi_wp2
        refine bodyPost_ret (results_none rfl _ _ _) rfl ?_
        exact ⟨⟨_, rfl⟩, .inr ⟨j + 1, by omega, hJx3⟩⟩
    · obtain rfl : j = k := by omega
      gi_wp2
      go_end0
      exact ⟨⟨_, rfl⟩, .inl hJs⟩
theorem sall_seq {gb g base k s : Nat} {buy : Bool} {L : Nat → Array Value} {w : World} (hb : w.heap[gb]? = some (.cells #[.pointer (some ⟨g, 0, none⟩)] 54 (0, 0))) (h : SideIs w g base k buy L) (hs : s ≤ w.heap.size) :
    SeqK Try.prog 47 #[.pointer (some ⟨gb, 0, none⟩)] (fun j => #[.agg (L j)]) k s w := fun l J Jx W hW hJ hJx hY h0 =>
  sall1_in W l J Jx hJ hJx hY (Ytmjfbilhalkegaa.kept hW hb) (h.kept hW) (Nat.le_trans hs hW.size) h0
end Go.Proofs.Ytmjfbilhalkegaa
