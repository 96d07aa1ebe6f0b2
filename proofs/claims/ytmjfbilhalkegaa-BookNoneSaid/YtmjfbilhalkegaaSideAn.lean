/- Add of a side for whatever order; Best of an empty side. Condition: the side is one. -/
import Derived.Test.YtmjfbilhalkegaaSideAd
import Derived.Test.YtmjfbilhalkegaaFill
namespace Go.Proofs.Ytmjfbilhalkegaa
set_option linter.unusedVariables false
set_option linter.unusedSimpArgs false
open Go.RowKit

theorem inB_no' {x a b : Int} (h : ¬ (a ≤ x ∧ x ≤ b)) : inB x a b = false := by
  cases hb : inB x a b
  · rfl
  · exact absurd (inB_iff.1 hb) h
set_option maxHeartbeats 1000000 in
theorem omay_any (A : Array Value) (w : World) (h : IsOrd A) :
    Calls Try.prog 26 #[.agg A] w fun e w' => e = .returned (.bool (okO A)) ∧ Below w.heap.size w w' := by
  have hsz := h.size
  have a0 : A[0]? = some (.int .u64 (N A 0)) := h.n.1
  have a1 : A[1]? = some (.int .u32 (N A 1)) := h.a.1
  have a3 : A[3]? = some (.int .i64 (N A 3)) := h.p.1
  have a4 : A[4]? = some (.int .i64 (N A 4)) := h.l.1
  have HF := Lib.hid (show okO A = (!decide (N A 0 = 0) && !decide (N A 1 = 0) && inB (N A 3) 1 10000000 && inB (N A 4) 1 1000000) from rfl)
  have Hsz := Lib.hid hsz
  clear hsz h
  generalize okO A = ok at *
  generalize N A 0 = x0 at *
  generalize N A 1 = x1 at *
  generalize N A 3 = x3 at *
  generalize N A 4 = x4 at *
  by_cases q0 : x0 = 0
  · have q0' : (x0 != 0) = false := by simp [q0]
    have HX := Lib.hid (show ok = false by rw [HF.out]; simp [q0])
    go_enter Try.func26, Try.ntmps26
    go_wp2
    go_ret
    exact ⟨(by rw [HX.out]; first | rfl | (simp [*]; done) | (simp [*]; omega)), below_new _ _⟩
  · have q0' : (x0 != 0) = true := by simp [q0]
    by_cases q1 : x1 = 0
    · have q1' : (x1 != 0) = false := by simp [q1]
      have HX := Lib.hid (show ok = false by rw [HF.out]; simp [q1])
      go_enter Try.func26, Try.ntmps26
      go_wp2
      go_ret
      exact ⟨(by rw [HX.out]; first | rfl | (simp [*]; done) | (simp [*]; omega)), below_new _ _⟩
    · have q1' : (x1 != 0) = true := by simp [q1]
      by_cases p1 : x3 < 1
      · have HX := Lib.hid (show ok = false by rw [HF.out, inB_no' (by omega)]; simp)
        go_enter Try.func26, Try.ntmps26
        go_wp2
        go_ret
        exact ⟨(by rw [HX.out]; first | rfl | (simp [*]; done) | (simp [*]; omega)), below_new _ _⟩
      · by_cases p2 : 10000000 < x3
        · have HX := Lib.hid (show ok = false by rw [HF.out, inB_no' (by omega)]; simp)
          go_enter Try.func26, Try.ntmps26
          go_wp2
          go_ret
          exact ⟨(by rw [HX.out]; first | rfl | (simp [*]; done) | (simp [*]; omega)), below_new _ _⟩
        · by_cases l1 : x4 < 1
          · have HX := Lib.hid (show ok = false by rw [HF.out, show inB x4 1 1000000 = false from inB_no' (by omega)]; simp)
            go_enter Try.func26, Try.ntmps26
            go_wp2
            go_ret
            exact ⟨(by rw [HX.out]; first | rfl | (simp [*]; done) | (simp [*]; omega)), below_new _ _⟩
          · by_cases l2 : 1000000 < x4
            · have HX := Lib.hid (show ok = false by rw [HF.out, show inB x4 1 1000000 = false from inB_no' (by omega)]; simp)
              go_enter Try.func26, Try.ntmps26
              go_wp2
              go_ret
              exact ⟨(by rw [HX.out]; first | rfl | (simp [*]; done) | (simp [*]; omega)), below_new _ _⟩
            · have HX := Lib.hid (show ok = true by rw [HF.out, inB_iff.2 (show 1 ≤ x3 ∧ x3 ≤ 10000000 by omega), inB_iff.2 (show 1 ≤ x4 ∧ x4 ≤ 1000000 by omega)]; simp [q0, q1])
              go_enter Try.func26, Try.ntmps26
              go_wp2
              go_ret
              exact ⟨(by rw [HX.out]; first | rfl | (simp [*]; done) | (simp [*]; omega)), below_new _ _⟩

theorem sadd_bad {w : World} {g base k : Nat} {L : Nat → Array Value} {B : Array Value} (buy : Bool) (h : SideIs w g base k buy L) (hB : IsOrd B) (hok : okO B = false) :
    Calls Try.prog 43 #[.pointer (some ⟨g, 0, none⟩), .agg B] w fun e w' => e = .returned (.int .i64 2) ∧ Below w.heap.size w w' := by
  have hb2 := below_alloc (below_new w (Obj.cells #[.pointer (some ⟨g, 0, none⟩)] 54)) (Obj.cells B 30)
  have hgo : ((w.alloc (Obj.cells #[.pointer (some ⟨g, 0, none⟩)] 54)).alloc (Obj.cells B 30)).heap[w.heap.size + 1]? = some (.cells B 30 (0, 0)) := by repeat (first | exact heap_new (by simp; done) | refine heap_up ?_)
  have hgs : ((w.alloc (Obj.cells #[.pointer (some ⟨g, 0, none⟩)] 54)).alloc (Obj.cells B 30)).heap[w.heap.size]? = some (.cells #[.pointer (some ⟨g, 0, none⟩)] 54 (0, 0)) := by repeat (first | exact heap_new (by simp; done) | refine heap_up ?_)
  obtain ⟨w2, hw2⟩ : ∃ w2, w2 = (w.alloc (Obj.cells #[.pointer (some ⟨g, 0, none⟩)] 54)).alloc (Obj.cells B 30) := ⟨_, rfl⟩
  have HS := Lib.hid h
  obtain ⟨v, hg, hrow⟩ := h.row
  obtain ⟨ra, rc, rfl, hR, _⟩ := own_rows (c := 5) (fun i => (h.ord i).size) hrow
  have HR := Lib.hid hR
  have HG := Lib.hid hg
  have HROW := Lib.hid hrow
  have hN0 := hB.n.1
  have hB2 : B[2]? = some (.bool (Bo B 2)) := hB.b
  have HB := Lib.hid hB
  have HEX := Lib.hid (extract_all hB.size)
  have CM := Lib.hid (fun w1 => omay_any B w1 hB)
  rw [hok] at CM
  have hHK := h.hk
  clear h hB hok hg hrow hR
  go_enter Try.func43, Try.ntmps43
  rw [← hw2] at hb2 hgo hgs
  have hS2 := HS.out.kept hb2
  have hg2 := Ytmjfbilhalkegaa.kept hb2 HG.out
  have cs2 := cellF hgs
  have co2 := cellF hgo
  have cg2 := cellF hg2
  have cr := sready_yes hS2
  rw [hw2] at cs2 co2 cg2 cr
  go_wp2_with ((go_at_call 39; (with_reducible refine (cr).mono ?_); rintro e w1 ⟨rfl, rfl⟩))
  rw [← hw2] at cs2 co2 cg2 cr ⊢
  have hsz2 : w2.heap.size = w.heap.size + 2 := by rw [hw2]; simp
  clear hw2 cr cs2 co2 cg2
  refine wp_region_below (by kernel_rfl) (by kernel_rfl) ?_
  repeat (first | ((with_reducible apply q_skip); (case hw => rfl); (try simp only [Act.put, List.setIfInBounds_toArray, List.set_cons_zero, List.set_cons_succ])) | ((with_reducible refine at_qload 30 ?_); refine q_load_part (by rfl) 30 _ rfl (w.heap.size + 1) (0) rfl _ (B) _ 5 (hgo) Try.underlying30 rfl (by kernel_rfl) (by rw [HB.out.size]; omega) (B) (HEX.out) ?_; try simp only [Act.put, List.setIfInBounds_toArray, List.set_cons_zero, List.set_cons_succ]) | ((with_reducible refine at_qcall 26 ?_); refine q_call_below _ 26 _ (by rfl) (CM.out) (fun wq hbq => by go_simp) ?_; try simp only [Act.put, List.setIfInBounds_toArray, List.set_cons_zero, List.set_cons_succ]) | ((with_reducible apply q_val); (case hw => rfl); (case hv => intro wq hbq; have hcq := cellF (Ytmjfbilhalkegaa.kept hbq hgo); have hcr := cellF (Ytmjfbilhalkegaa.kept hbq hg2); have hcs := cellF (Ytmjfbilhalkegaa.kept hbq hgs); go_simp; try rfl); (try simp only [Act.put, List.setIfInBounds_toArray, List.set_cons_zero, List.set_cons_succ])))
  refine q_nil ?_
  intro w6 hb6
  have hb62 := below_then hb2 hb6
  go_wp2_with fail
  go_ret
  exact ⟨rfl, hb62⟩
theorem sadd_wrong {w : World} {g base k : Nat} {L : Nat → Array Value} {B : Array Value} (buy : Bool) (h : SideIs w g base k buy L) (hB : IsOrd B) (hok : okO B = true) (hbuy : Bo B 2 ≠ buy) :
    Calls Try.prog 43 #[.pointer (some ⟨g, 0, none⟩), .agg B] w fun e w' => e = .returned (.int .i64 2) ∧ Below w.heap.size w w' := by
  have hb2 := below_alloc (below_new w (Obj.cells #[.pointer (some ⟨g, 0, none⟩)] 54)) (Obj.cells B 30)
  have hgo : ((w.alloc (Obj.cells #[.pointer (some ⟨g, 0, none⟩)] 54)).alloc (Obj.cells B 30)).heap[w.heap.size + 1]? = some (.cells B 30 (0, 0)) := by repeat (first | exact heap_new (by simp; done) | refine heap_up ?_)
  have hgs : ((w.alloc (Obj.cells #[.pointer (some ⟨g, 0, none⟩)] 54)).alloc (Obj.cells B 30)).heap[w.heap.size]? = some (.cells #[.pointer (some ⟨g, 0, none⟩)] 54 (0, 0)) := by repeat (first | exact heap_new (by simp; done) | refine heap_up ?_)
  obtain ⟨w2, hw2⟩ : ∃ w2, w2 = (w.alloc (Obj.cells #[.pointer (some ⟨g, 0, none⟩)] 54)).alloc (Obj.cells B 30) := ⟨_, rfl⟩
  have HS := Lib.hid h
  obtain ⟨v, hg, hrow⟩ := h.row
  obtain ⟨ra, rc, rfl, hR, _⟩ := own_rows (c := 5) (fun i => (h.ord i).size) hrow
  have HR := Lib.hid hR
  have HG := Lib.hid hg
  have HROW := Lib.hid hrow
  have hN0 := hB.n.1
  have hB2 : B[2]? = some (.bool (Bo B 2)) := hB.b
  have HB := Lib.hid hB
  have HEX := Lib.hid (extract_all hB.size)
  have CM := Lib.hid (fun w1 => omay_any B w1 hB)
  rw [hok] at CM
  have hHK := h.hk
  have hbn : Bo B 2 = !buy := by cases hb : Bo B 2 <;> cases hc : buy <;> simp_all
  rw [hbn] at hB2
  clear h hB hok hg hrow hR hbuy hbn
  cases buy
  · go_enter Try.func43, Try.ntmps43
    rw [← hw2] at hb2 hgo hgs
    have hS2 := HS.out.kept hb2
    have hg2 := Ytmjfbilhalkegaa.kept hb2 HG.out
    have cs2 := cellF hgs
    have co2 := cellF hgo
    have cg2 := cellF hg2
    have cr := sready_yes hS2
    rw [hw2] at cs2 co2 cg2 cr
    go_wp2_with ((go_at_call 39; (with_reducible refine (cr).mono ?_); rintro e w1 ⟨rfl, rfl⟩))
    rw [← hw2] at cs2 co2 cg2 cr ⊢
    have hsz2 : w2.heap.size = w.heap.size + 2 := by rw [hw2]; simp
    clear hw2 cr cs2 co2 cg2
    refine wp_region_below (by kernel_rfl) (by kernel_rfl) ?_
    repeat (first | ((with_reducible apply q_skip); (case hw => rfl); (try simp only [Act.put, List.setIfInBounds_toArray, List.set_cons_zero, List.set_cons_succ])) | ((with_reducible refine at_qload 30 ?_); refine q_load_part (by rfl) 30 _ rfl (w.heap.size + 1) (0) rfl _ (B) _ 5 (hgo) Try.underlying30 rfl (by kernel_rfl) (by rw [HB.out.size]; omega) (B) (HEX.out) ?_; try simp only [Act.put, List.setIfInBounds_toArray, List.set_cons_zero, List.set_cons_succ]) | ((with_reducible refine at_qcall 26 ?_); refine q_call_below _ 26 _ (by rfl) (CM.out) (fun wq hbq => by go_simp) ?_; try simp only [Act.put, List.setIfInBounds_toArray, List.set_cons_zero, List.set_cons_succ]) | ((with_reducible apply q_val); (case hw => rfl); (case hv => intro wq hbq; have hcq := cellF (Ytmjfbilhalkegaa.kept hbq hgo); have hcr := cellF (Ytmjfbilhalkegaa.kept hbq hg2); have hcs := cellF (Ytmjfbilhalkegaa.kept hbq hgs); go_simp; try rfl); (try simp only [Act.put, List.setIfInBounds_toArray, List.set_cons_zero, List.set_cons_succ])))
    refine q_nil ?_
    intro w6 hb6
    have hb62 := below_then hb2 hb6
    go_wp2_with fail
    go_ret
    exact ⟨rfl, hb62⟩
  · go_enter Try.func43, Try.ntmps43
    rw [← hw2] at hb2 hgo hgs
    have hS2 := HS.out.kept hb2
    have hg2 := Ytmjfbilhalkegaa.kept hb2 HG.out
    have cs2 := cellF hgs
    have co2 := cellF hgo
    have cg2 := cellF hg2
    have cr := sready_yes hS2
    rw [hw2] at cs2 co2 cg2 cr
    go_wp2_with ((go_at_call 39; (with_reducible refine (cr).mono ?_); rintro e w1 ⟨rfl, rfl⟩))
    rw [← hw2] at cs2 co2 cg2 cr ⊢
    have hsz2 : w2.heap.size = w.heap.size + 2 := by rw [hw2]; simp
    clear hw2 cr cs2 co2 cg2
    refine wp_region_below (by kernel_rfl) (by kernel_rfl) ?_
    repeat (first | ((with_reducible apply q_skip); (case hw => rfl); (try simp only [Act.put, List.setIfInBounds_toArray, List.set_cons_zero, List.set_cons_succ])) | ((with_reducible refine at_qload 30 ?_); refine q_load_part (by rfl) 30 _ rfl (w.heap.size + 1) (0) rfl _ (B) _ 5 (hgo) Try.underlying30 rfl (by kernel_rfl) (by rw [HB.out.size]; omega) (B) (HEX.out) ?_; try simp only [Act.put, List.setIfInBounds_toArray, List.set_cons_zero, List.set_cons_succ]) | ((with_reducible refine at_qcall 26 ?_); refine q_call_below _ 26 _ (by rfl) (CM.out) (fun wq hbq => by go_simp) ?_; try simp only [Act.put, List.setIfInBounds_toArray, List.set_cons_zero, List.set_cons_succ]) | ((with_reducible apply q_val); (case hw => rfl); (case hv => intro wq hbq; have hcq := cellF (Ytmjfbilhalkegaa.kept hbq hgo); have hcr := cellF (Ytmjfbilhalkegaa.kept hbq hg2); have hcs := cellF (Ytmjfbilhalkegaa.kept hbq hgs); go_simp; try rfl); (try simp only [Act.put, List.setIfInBounds_toArray, List.set_cons_zero, List.set_cons_succ])))
    refine q_nil ?_
    intro w6 hb6
    have hb62 := below_then hb2 hb6
    go_wp2_with fail
    go_ret
    exact ⟨rfl, hb62⟩
theorem sadd_twice {w : World} {g base k : Nat} {L : Nat → Array Value} {B : Array Value} (buy : Bool) (h : SideIs w g base k buy L) (hB : IsOrd B) (hok : okO B = true) (hbuy : Bo B 2 = buy) (hat : 0 ≤ fi (fun i => decide (N (L i) 0 = N B 0)) k) :
    Calls Try.prog 43 #[.pointer (some ⟨g, 0, none⟩), .agg B] w fun e w' => e = .returned (.int .i64 8) ∧ Below w.heap.size w w' := by
  have hb2 := below_alloc (below_new w (Obj.cells #[.pointer (some ⟨g, 0, none⟩)] 54)) (Obj.cells B 30)
  have hgo : ((w.alloc (Obj.cells #[.pointer (some ⟨g, 0, none⟩)] 54)).alloc (Obj.cells B 30)).heap[w.heap.size + 1]? = some (.cells B 30 (0, 0)) := by repeat (first | exact heap_new (by simp; done) | refine heap_up ?_)
  have hgs : ((w.alloc (Obj.cells #[.pointer (some ⟨g, 0, none⟩)] 54)).alloc (Obj.cells B 30)).heap[w.heap.size]? = some (.cells #[.pointer (some ⟨g, 0, none⟩)] 54 (0, 0)) := by repeat (first | exact heap_new (by simp; done) | refine heap_up ?_)
  obtain ⟨w2, hw2⟩ : ∃ w2, w2 = (w.alloc (Obj.cells #[.pointer (some ⟨g, 0, none⟩)] 54)).alloc (Obj.cells B 30) := ⟨_, rfl⟩
  have HS := Lib.hid h
  obtain ⟨v, hg, hrow⟩ := h.row
  obtain ⟨ra, rc, rfl, hR, _⟩ := own_rows (c := 5) (fun i => (h.ord i).size) hrow
  have HR := Lib.hid hR
  have HG := Lib.hid hg
  have HROW := Lib.hid hrow
  have hN0 := hB.n.1
  have hB2 : B[2]? = some (.bool (Bo B 2)) := hB.b
  have HB := Lib.hid hB
  have HEX := Lib.hid (extract_all hB.size)
  have CM := Lib.hid (fun w1 => omay_any B w1 hB)
  rw [hok] at CM
  have hHK := h.hk
  rw [hbuy] at hB2
  obtain ⟨pi, hpi⟩ : ∃ pi : Nat, fi (fun i => decide (N (L i) 0 = N B 0)) k = pi := ⟨_, (Int.toNat_of_nonneg hat).symm⟩
  have HAT := Lib.hid hpi
  clear h hB hok hg hrow hR hbuy hat hpi
  go_enter Try.func43, Try.ntmps43
  rw [← hw2] at hb2 hgo hgs
  have hS2 := HS.out.kept hb2
  have hg2 := Ytmjfbilhalkegaa.kept hb2 HG.out
  have cs2 := cellF hgs
  have co2 := cellF hgo
  have cg2 := cellF hg2
  have cr := sready_yes hS2
  rw [hw2] at cs2 co2 cg2 cr
  go_wp2_with ((go_at_call 39; (with_reducible refine (cr).mono ?_); rintro e w1 ⟨rfl, rfl⟩))
  rw [← hw2] at cs2 co2 cg2 cr ⊢
  have hsz2 : w2.heap.size = w.heap.size + 2 := by rw [hw2]; simp
  clear hw2 cr cs2 co2 cg2
  refine wp_region_below (by kernel_rfl) (by kernel_rfl) ?_
  repeat (first | ((with_reducible apply q_skip); (case hw => rfl); (try simp only [Act.put, List.setIfInBounds_toArray, List.set_cons_zero, List.set_cons_succ])) | ((with_reducible refine at_qload 30 ?_); refine q_load_part (by rfl) 30 _ rfl (w.heap.size + 1) (0) rfl _ (B) _ 5 (hgo) Try.underlying30 rfl (by kernel_rfl) (by rw [HB.out.size]; omega) (B) (HEX.out) ?_; try simp only [Act.put, List.setIfInBounds_toArray, List.set_cons_zero, List.set_cons_succ]) | ((with_reducible refine at_qcall 26 ?_); refine q_call_below _ 26 _ (by rfl) (CM.out) (fun wq hbq => by go_simp) ?_; try simp only [Act.put, List.setIfInBounds_toArray, List.set_cons_zero, List.set_cons_succ]) | ((with_reducible apply q_val); (case hw => rfl); (case hv => intro wq hbq; have hcq := cellF (Ytmjfbilhalkegaa.kept hbq hgo); have hcr := cellF (Ytmjfbilhalkegaa.kept hbq hg2); have hcs := cellF (Ytmjfbilhalkegaa.kept hbq hgs); go_simp; try rfl); (try simp only [Act.put, List.setIfInBounds_toArray, List.set_cons_zero, List.set_cons_succ])))
  refine q_nil ?_
  intro w6 hb6
  have hb62 := below_then hb2 hb6
  have hS6 := HS.out.kept hb62
  have hgo6 := Ytmjfbilhalkegaa.kept hb6 hgo
  have hgs6 := Ytmjfbilhalkegaa.kept hb6 hgs
  have hg6 := Ytmjfbilhalkegaa.kept hb6 hg2
  have ca := sat_any (N B 0) hS6
  rw [HAT.out] at ca
  clear hS2 hg2 hgo hgs
  have co := cellF hgo6
  have cs := cellF hgs6
  have hmf : ∀ (fn : Fn) (first cap : Array Value) (w : World), (Instr.makeFunc fn first cap).run Try.prog w = .ok (.func fn first cap) w := fun _ _ _ _ => rfl
  go_wp2_with ((go_at_call 48; (with_reducible refine (ca).mono ?_); rintro e w7 ⟨rfl, hb7⟩; have cs7 := cellF (Ytmjfbilhalkegaa.kept hb7 hgs6); have cg7 := cellF (Ytmjfbilhalkegaa.kept hb7 hg6)))
  go_ret
  exact ⟨rfl, below_then hb62 hb7⟩
theorem sadd_full {w : World} {g base k : Nat} {L : Nat → Array Value} {B : Array Value} (buy : Bool) (h : SideIs w g base k buy L) (hB : IsOrd B) (hok : okO B = true) (hbuy : Bo B 2 = buy) (hat : fi (fun i => decide (N (L i) 0 = N B 0)) k = -1) (hk : 100 ≤ k) :
    Calls Try.prog 43 #[.pointer (some ⟨g, 0, none⟩), .agg B] w fun e w' => e = .returned (.int .i64 9) ∧ Below w.heap.size w w' := by
  have hb2 := below_alloc (below_new w (Obj.cells #[.pointer (some ⟨g, 0, none⟩)] 54)) (Obj.cells B 30)
  have hgo : ((w.alloc (Obj.cells #[.pointer (some ⟨g, 0, none⟩)] 54)).alloc (Obj.cells B 30)).heap[w.heap.size + 1]? = some (.cells B 30 (0, 0)) := by repeat (first | exact heap_new (by simp; done) | refine heap_up ?_)
  have hgs : ((w.alloc (Obj.cells #[.pointer (some ⟨g, 0, none⟩)] 54)).alloc (Obj.cells B 30)).heap[w.heap.size]? = some (.cells #[.pointer (some ⟨g, 0, none⟩)] 54 (0, 0)) := by repeat (first | exact heap_new (by simp; done) | refine heap_up ?_)
  obtain ⟨w2, hw2⟩ : ∃ w2, w2 = (w.alloc (Obj.cells #[.pointer (some ⟨g, 0, none⟩)] 54)).alloc (Obj.cells B 30) := ⟨_, rfl⟩
  have HS := Lib.hid h
  obtain ⟨v, hg, hrow⟩ := h.row
  obtain ⟨ra, rc, rfl, hR, _⟩ := own_rows (c := 5) (fun i => (h.ord i).size) hrow
  have HR := Lib.hid hR
  have HG := Lib.hid hg
  have HROW := Lib.hid hrow
  have hN0 := hB.n.1
  have hB2 : B[2]? = some (.bool (Bo B 2)) := hB.b
  have HB := Lib.hid hB
  have HEX := Lib.hid (extract_all hB.size)
  have CM := Lib.hid (fun w1 => omay_any B w1 hB)
  rw [hok] at CM
  have hHK := h.hk
  rw [hbuy] at hB2
  have HAT := Lib.hid hat
  have h100 : (100 : Int) ≤ k := by omega
  clear h hB hok hg hrow hR hbuy hat
  go_enter Try.func43, Try.ntmps43
  rw [← hw2] at hb2 hgo hgs
  have hS2 := HS.out.kept hb2
  have hg2 := Ytmjfbilhalkegaa.kept hb2 HG.out
  have cs2 := cellF hgs
  have co2 := cellF hgo
  have cg2 := cellF hg2
  have cr := sready_yes hS2
  rw [hw2] at cs2 co2 cg2 cr
  go_wp2_with ((go_at_call 39; (with_reducible refine (cr).mono ?_); rintro e w1 ⟨rfl, rfl⟩))
  rw [← hw2] at cs2 co2 cg2 cr ⊢
  have hsz2 : w2.heap.size = w.heap.size + 2 := by rw [hw2]; simp
  clear hw2 cr cs2 co2 cg2
  refine wp_region_below (by kernel_rfl) (by kernel_rfl) ?_
  repeat (first | ((with_reducible apply q_skip); (case hw => rfl); (try simp only [Act.put, List.setIfInBounds_toArray, List.set_cons_zero, List.set_cons_succ])) | ((with_reducible refine at_qload 30 ?_); refine q_load_part (by rfl) 30 _ rfl (w.heap.size + 1) (0) rfl _ (B) _ 5 (hgo) Try.underlying30 rfl (by kernel_rfl) (by rw [HB.out.size]; omega) (B) (HEX.out) ?_; try simp only [Act.put, List.setIfInBounds_toArray, List.set_cons_zero, List.set_cons_succ]) | ((with_reducible refine at_qcall 26 ?_); refine q_call_below _ 26 _ (by rfl) (CM.out) (fun wq hbq => by go_simp) ?_; try simp only [Act.put, List.setIfInBounds_toArray, List.set_cons_zero, List.set_cons_succ]) | ((with_reducible apply q_val); (case hw => rfl); (case hv => intro wq hbq; have hcq := cellF (Ytmjfbilhalkegaa.kept hbq hgo); have hcr := cellF (Ytmjfbilhalkegaa.kept hbq hg2); have hcs := cellF (Ytmjfbilhalkegaa.kept hbq hgs); go_simp; try rfl); (try simp only [Act.put, List.setIfInBounds_toArray, List.set_cons_zero, List.set_cons_succ])))
  refine q_nil ?_
  intro w6 hb6
  have hb62 := below_then hb2 hb6
  have hS6 := HS.out.kept hb62
  have hgo6 := Ytmjfbilhalkegaa.kept hb6 hgo
  have hgs6 := Ytmjfbilhalkegaa.kept hb6 hgs
  have hg6 := Ytmjfbilhalkegaa.kept hb6 hg2
  have ca := sat_any (N B 0) hS6
  rw [HAT.out] at ca
  clear hS2 hg2 hgo hgs
  have co := cellF hgo6
  have cs := cellF hgs6
  have hmf : ∀ (fn : Fn) (first cap : Array Value) (w : World), (Instr.makeFunc fn first cap).run Try.prog w = .ok (.func fn first cap) w := fun _ _ _ _ => rfl
  go_wp2_with ((go_at_call 48; (with_reducible refine (ca).mono ?_); rintro e w7 ⟨rfl, hb7⟩; have cs7 := cellF (Ytmjfbilhalkegaa.kept hb7 hgs6); have cg7 := cellF (Ytmjfbilhalkegaa.kept hb7 hg6)))
  go_ret
  exact ⟨rfl, below_then hb62 hb7⟩
/-- Add of whatever order -/
theorem sadd_any {w : World} {g base k : Nat} {L : Nat → Array Value} {B : Array Value} {buy : Bool} (h : SideIs w g base k buy L) (hB : IsOrd B) :
    Calls Try.prog 43 #[.pointer (some ⟨g, 0, none⟩), .agg B] w fun e w' => ∃ r : Int, e = .returned (.int .i64 r) ∧ ((r ≠ 0 ∧ Below w.heap.size w w') ∨
      (r = 0 ∧ okO B = true ∧ Bo B 2 = buy ∧ (∀ i, i < k → N (L i) 0 ≠ N B 0) ∧ k < 100 ∧ SideIs w' g base (k + 1) buy (ins L (plc buy L B k) B) ∧ Below base w w' ∧ Ko g w w')) := by
  by_cases ho : okO B = true
  · by_cases hb : Bo B 2 = buy
    · by_cases ha : fi (fun i => decide (N (L i) 0 = N B 0)) k = -1
      · by_cases hk : k < 100
        · have hfr : ∀ i, i < k → N (L i) 0 ≠ N B 0 := fun i hi => by simpa using fi_none k ha i hi
          exact (sadd_ok buy h hB ho hb hfr hk).mono fun e w' ⟨h1, h2⟩ => ⟨0, h1, .inr ⟨rfl, ho, hb, hfr, hk, h2⟩⟩
        · exact (sadd_full buy h hB ho hb ha (by omega)).mono fun e w' ⟨h1, h2⟩ => ⟨9, h1, .inl ⟨by decide, h2⟩⟩
      · have := fi_bd (q := fun i => decide (N (L i) 0 = N B 0)) k
        exact (sadd_twice buy h hB ho hb (by omega)).mono fun e w' ⟨h1, h2⟩ => ⟨8, h1, .inl ⟨by decide, h2⟩⟩
    · exact (sadd_wrong buy h hB ho hb).mono fun e w' ⟨h1, h2⟩ => ⟨2, h1, .inl ⟨by decide, h2⟩⟩
  · exact (sadd_bad buy h hB (by simpa using ho)).mono fun e w' ⟨h1, h2⟩ => ⟨2, h1, .inl ⟨by decide, h2⟩⟩
set_option maxRecDepth 100000 in
theorem sbest_zero {w : World} {g base : Nat} {buy : Bool} {L : Nat → Array Value} (h : SideIs w g base 0 buy L) : Calls Try.prog 40 #[.pointer (some ⟨g, 0, none⟩)] w fun e w' => e = .returned (.tuple #[.agg zo, .bool false]) ∧ Below w.heap.size w w' := by
  have hb := below_new w (Obj.cells zo 30)
  have hc := heap_alloc_new w (Obj.cells zo 30)
  have h1 := h.kept hb
  have cr := sready_yes h1
  obtain ⟨v, hg, hrow⟩ := h1.row
  obtain ⟨ra, rc, rfl, _⟩ := own_rows (c := 5) (fun i => (h1.ord i).size) hrow
  have cg := cellF hg
  have HZ := Lib.hid zo_size
  have HA := Lib.hid zo_all
  clear hrow h1 h
  go_enter Try.func40, Try.ntmps40
  go_wp2_with (first | ((with_reducible refine at_alloc 30 ?_); refine wpList_alloc_named rfl 30 rfl zo (by kernel_rfl) ?_) | (go_at_call 39; (with_reducible refine (cr).mono ?_); rintro e w1 ⟨rfl, rfl⟩) | ((with_reducible refine at_build 30 ?_); refine wpList_build_named rfl 30 _ rfl zo (by kernel_rfl) ?_) | ((with_reducible refine at_store 30 ?_); refine wpList_store_over rfl 30 _ _ rfl (w.heap.size) (zo) rfl rfl _ _ (hc) (by rw [HZ.out]; kernel_rfl) (rfl) (HA.out) ?_; intro w3 hg3 hs3 ho3 hb3))
  exact post_cell_tmp (g := w.heap.size) (t := 30) (v := .bool false) rfl rfl rfl rfl hg3 Try.underlying30 rfl (by rw [HZ.out]; kernel_rfl) ⟨rfl, hb.trans (hb3 _ (Nat.le_refl _))⟩
end Go.Proofs.Ytmjfbilhalkegaa
