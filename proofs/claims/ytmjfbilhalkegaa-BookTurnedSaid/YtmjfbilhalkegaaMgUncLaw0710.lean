/- Texts that UncLaw07 stands on, one behind the other, part 10. Conditions: each theorem names its own. -/
import Derived.Test.YtmjfbilhalkegaaMgUncLaw079
/-! A book: an order is found. Condition: the book is one. -/
namespace Go.Proofs.Ytmjfbilhalkegaa
set_option linter.unusedVariables false
set_option linter.unusedSimpArgs false
open Go.RowKit Go.Deep

def cells2 (P : Program) (e : TypeId) (len : Nat) (ps : List (Nat × Value)) : Option (Array Value) :=
  (P.info? e).bind fun ie => ie.zero.bind fun z => if len * ie.size > 2 ^ 24 ∨ len * ie.size = 0 then none else
    Instr.fill (fun i => some (i * ie.size, ie.size)) ((Array.range (len * ie.size)).map (z.cells[· % z.cells.size]!)) ps
theorem op_slice_named {P : Program} {o : Oper} {a : Act} {w : World} {K : Act → World → Prop} {Q : Exit → Act → World → Prop} (t e : TypeId) (len : Nat) (parts : Array (Nat × Operand)) (ho : o.op = .buildSlice t len parts)
    (B : Array Value) (hu : P.underlying t = some (.slice e)) (hf : cells2 P e len (parts.map fun (i, x) => (i, a.eval x)).toList = some B)
    (h : K (a.put o.dst (.slice (some ⟨w.heap.size, 0, none⟩) len len)) (w.alloc (.cells B e))) : o.wp P a w K Q := by
  unfold cells2 at hf
  cases hie : P.info? e with
  | none => simp [hie] at hf
  | some ie =>
    cases hz : ie.zero with
    | none => simp [hie, hz] at hf
    | some z =>
      simp only [hie, hz, Option.bind_some] at hf
      split at hf
      · simp at hf
      · rename_i hn
        exact wp_buildSlice t e len parts ho B ie z hu hie hz (fun h => hn (Or.inl h)) (fun h => hn (Or.inr h)) hf h
def fnO (n : Int) (lb ls : List Od) : Array Value := match gt n lb with
  | some o => oa o
  | none => match gt n ls with
    | some o => oa o
    | none => zo
def fnP (n : Int) (lb ls : List Od) (gb gs : Nat) : Value := match gt n lb with
  | some _ => .pointer (some ⟨gb, 0, none⟩)
  | none => match gt n ls with
    | some _ => .pointer (some ⟨gs, 0, none⟩)
    | none => .pointer none
theorem fn_b {n : Int} {lb ls : List Od} {gb gs : Nat} {o : Od} (h : gt n lb = some o) : fnO n lb ls = oa o ∧ fnP n lb ls gb gs = .pointer (some ⟨gb, 0, none⟩) := by unfold fnO fnP; rw [h]; exact ⟨rfl, rfl⟩
theorem fn_s {n : Int} {lb ls : List Od} {gb gs : Nat} {o : Od} (h : gt n lb = none) (h2 : gt n ls = some o) : fnO n lb ls = oa o ∧ fnP n lb ls gb gs = .pointer (some ⟨gs, 0, none⟩) := by unfold fnO fnP; rw [h, h2]; exact ⟨rfl, rfl⟩
theorem fn_n {n : Int} {lb ls : List Od} {gb gs : Nat} (h : gt n lb = none) (h2 : gt n ls = none) : fnO n lb ls = zo ∧ fnP n lb ls gb gs = .pointer none := by unfold fnO fnP; rw [h, h2]; exact ⟨rfl, rfl⟩
structure Fr (n : Int) (lb ls : List Od) (w3 wr : World) (k : Nat) : Prop where
  h1 : 1 ≤ k → gt n lb = none
  h2 : 2 ≤ k → gt n ls = none
  be : Below w3.heap.size w3 wr
theorem gt_mem {n : Int} : ∀ {l : List Od} {o : Od}, gt n l = some o → o ∈ l
  | [], o, h => by cases h
  | x :: r, o, h => by
    unfold gt at h
    by_cases e : x.n = n
    · rw [if_pos e] at h; cases h; simp
    · rw [if_neg e] at h; simp [gt_mem h]
set_option maxRecDepth 100000 in
set_option maxHeartbeats 4000000 in
theorem find_any {w : World} {g gb gs base : Nat} {lb ls : List Od} (n : Int) (h : BkG w g gb gs base lb ls) :
    Calls Try.prog 27 #[.pointer (some ⟨g, 0, none⟩), .int .u64 n] w fun e w' => e = .returned (.tuple #[.agg (fnO n lb ls), fnP n lb ls gb gs]) ∧ Below w.heap.size w w' := by
  have HZ := Lib.hid zo_size
  have HZA := Lib.hid zo_all
  have HT := Lib.hid h.two
  have hb0 := below_new w (Obj.cells zo 30)
  have hr0 := heap_alloc_new w (Obj.cells zo 30)
  have hg0 := Ytmjfbilhalkegaa.kept hb0 h.row
  clear h
  go_enter Try.func27, Try.ntmps27
  go_wp2_with (((with_reducible refine at_alloc 30 ?_); refine wpList_alloc_named rfl 30 rfl (zo) (by kernel_rfl) ?_))
  refine wp_region_held (S := fun wt => wt.heap[g]? = some (.cells #[.pointer (some ⟨gb, 0, none⟩), .pointer (some ⟨gs, 0, none⟩)] 56 (0, 0))) (by kernel_rfl) ?_
  change wpAnyH _ _ _ _ _ _ _ _ (World.drew _)
  obtain ⟨wq, hwq⟩ : ∃ wq, wq = (w.alloc (Obj.cells zo 30)).drew := ⟨_, rfl⟩
  have hBq : Below w.heap.size w wq := by rw [hwq]; exact Below.drew hb0
  have hrq : wq.heap[w.heap.size]? = some (.cells zo 30 (0, 0)) := by rw [hwq]; exact hr0
  have HS : wq.heap[g]? = some (.cells #[.pointer (some ⟨gb, 0, none⟩), .pointer (some ⟨gs, 0, none⟩)] 56 (0, 0)) := by rw [hwq]; exact hg0
  rw [← hwq]
  clear hwq hb0 hr0 hg0
  (refine wpAnyH_take (i := 0) (v := ?_) rfl (by kernel_rfl) (by kernel_rfl) (by kernel_rfl) (fun _ _ _ h => h) (Or.inl ⟨by rfl, ?ht_0⟩) HS ?_); (case ht_0 => (intro wt hS; go_simp; try with_reducible rfl)); (try simp only [Act.put, List.getElem_toArray, List.getElem_cons_zero, List.getElem_cons_succ, List.setIfInBounds_toArray, List.set_cons_zero, List.set_cons_succ]); (refine wpAnyH_take (i := 1) (v := ?_) rfl (by kernel_rfl) (by kernel_rfl) (by kernel_rfl) (fun _ _ _ h => h) (Or.inl ⟨by rfl, ?ht_1⟩) HS ?_); (case ht_1 => (intro wt hS; go_simp; try with_reducible rfl)); (try simp only [Act.put, List.getElem_toArray, List.getElem_cons_zero, List.getElem_cons_succ, List.setIfInBounds_toArray, List.set_cons_zero, List.set_cons_succ]); (refine wpAnyH_take (i := 2) (v := ?_) rfl (by kernel_rfl) (by kernel_rfl) (by kernel_rfl) (fun _ _ _ h => h) (Or.inl ⟨by rfl, ?ht_2⟩) HS ?_); (case ht_2 => (intro wt hS; go_simp; try with_reducible rfl)); (try simp only [Act.put, List.getElem_toArray, List.getElem_cons_zero, List.getElem_cons_succ, List.setIfInBounds_toArray, List.set_cons_zero, List.set_cons_succ])
  (refine wpAnyH_take (i := 3) (v := ?_) rfl (by kernel_rfl) (by kernel_rfl) (by kernel_rfl) (fun _ _ _ h => h) (Or.inl ⟨by rfl, ?ht_3⟩) HS ?_); (case ht_3 => (intro wt hS; have cg := cellF hS; go_simp; try with_reducible rfl)); (try simp only [Act.put, List.getElem_toArray, List.getElem_cons_zero, List.getElem_cons_succ, List.setIfInBounds_toArray, List.set_cons_zero, List.set_cons_succ])
  (refine wpAnyH_take (i := 4) (v := ?_) rfl (by kernel_rfl) (by kernel_rfl) (by kernel_rfl) (fun _ _ _ h => h) (Or.inl ⟨by rfl, ?ht_4⟩) HS ?_); (case ht_4 => (intro wt hS; go_simp; try with_reducible rfl)); (try simp only [Act.put, List.getElem_toArray, List.getElem_cons_zero, List.getElem_cons_succ, List.setIfInBounds_toArray, List.set_cons_zero, List.set_cons_succ]); (refine wpAnyH_take (i := 5) (v := ?_) rfl (by kernel_rfl) (by kernel_rfl) (by kernel_rfl) (fun _ _ _ h => h) (Or.inl ⟨by rfl, ?ht_5⟩) HS ?_); (case ht_5 => (intro wt hS; go_simp; try with_reducible rfl)); (try simp only [Act.put, List.getElem_toArray, List.getElem_cons_zero, List.getElem_cons_succ, List.setIfInBounds_toArray, List.set_cons_zero, List.set_cons_succ]); (refine wpAnyH_take (i := 6) (v := ?_) rfl (by kernel_rfl) (by kernel_rfl) (by kernel_rfl) (fun _ _ _ h => h) (Or.inl ⟨by rfl, ?ht_6⟩) HS ?_); (case ht_6 => (intro wt hS; go_simp; try with_reducible rfl)); (try simp only [Act.put, List.getElem_toArray, List.getElem_cons_zero, List.getElem_cons_succ, List.setIfInBounds_toArray, List.set_cons_zero, List.set_cons_succ])
  (refine wpAnyH_take (i := 7) (v := ?_) rfl (by kernel_rfl) (by kernel_rfl) (by kernel_rfl) (fun _ _ _ h => h) (Or.inl ⟨by rfl, ?ht_7⟩) HS ?_); (case ht_7 => (intro wt hS; have cg := cellF hS; go_simp; try with_reducible rfl)); (try simp only [Act.put, List.getElem_toArray, List.getElem_cons_zero, List.getElem_cons_succ, List.setIfInBounds_toArray, List.set_cons_zero, List.set_cons_succ])
  (refine wpAnyH_take (i := 10) (v := ?_) rfl (by kernel_rfl) (by kernel_rfl) (by kernel_rfl) (fun _ _ _ h => h) (Or.inl ⟨by rfl, ?ht_10⟩) HS ?_); (case ht_10 => (intro wt hS; go_simp; try with_reducible rfl)); (try simp only [Act.put, List.getElem_toArray, List.getElem_cons_zero, List.getElem_cons_succ, List.setIfInBounds_toArray, List.set_cons_zero, List.set_cons_succ])
  (refine wpAnyH_ready (rs := [8]) (by kernel_rfl) (by decide) ?_); (refine AllReadyH.cons rfl (fun K' hK => ?_) AllReadyH.nil); (rw [if_pos (by rfl)])
  refine op_slice_named 78 54 2 _ rfl #[.pointer (some ⟨gb, 0, none⟩), .pointer (some ⟨gs, 0, none⟩)] Try.underlying78 (by kernel_rfl) (hK.out _ _ (heap_up HS) (fun HS => ?_))
  clear hK K'
  (try simp only [Act.put, List.getElem_toArray, List.getElem_cons_zero, List.getElem_cons_succ, List.setIfInBounds_toArray, List.set_cons_zero, List.set_cons_succ])
  (refine wpAnyH_take (i := 9) (v := ?_) rfl (by kernel_rfl) (by kernel_rfl) (by kernel_rfl) (fun _ _ _ h => h) (Or.inl ⟨by rfl, ?ht_9⟩) HS ?_); (case ht_9 => (intro wt hS; go_simp; try with_reducible rfl)); (try simp only [Act.put, List.getElem_toArray, List.getElem_cons_zero, List.getElem_cons_succ, List.setIfInBounds_toArray, List.set_cons_zero, List.set_cons_succ])
  refine wpAnyH_done (by kernel_rfl) ?_ _
  have hgs3 := heap_alloc_new wq (Obj.cells #[.pointer (some ⟨gb, 0, none⟩), .pointer (some ⟨gs, 0, none⟩)] 54)
  have HR := Lib.hid (heap_up (o := Obj.cells #[.pointer (some ⟨gb, 0, none⟩), .pointer (some ⟨gs, 0, none⟩)] 54) hrq)
  have HB := Lib.hid (below_alloc hBq (Obj.cells #[.pointer (some ⟨gb, 0, none⟩), .pointer (some ⟨gs, 0, none⟩)] 54))
  obtain ⟨gS, hgS⟩ : ∃ gS, gS = wq.heap.size := ⟨_, rfl⟩
  rw [← hgS] at hgs3 ⊢
  obtain ⟨w3, hw3⟩ : ∃ w3, w3 = wq.alloc (Obj.cells #[.pointer (some ⟨gb, 0, none⟩), .pointer (some ⟨gs, 0, none⟩)] 54) := ⟨_, rfl⟩
  rw [← hw3] at hgs3 HR HB HS ⊢
  clear hw3 hgS hBq hrq HS
  have HG3 := Lib.hid hgs3
  clear hgs3
  go_wp2_with fail
  go_loopg [20] 2 (fun gh vi wr => ∃ k : Nat, k ≤ 2 ∧ gh = 2 - k ∧ vi = .int .i64 k ∧ Fr n lb ls w3 wr k)
  case atStart => exact ⟨0, by omega, rfl, rfl, ⟨fun h => by omega, fun h => by omega, Below.refl _ _⟩⟩
  case round =>
    obtain ⟨k, hk, rfl, rfl, hF⟩ := hrel
    have HF := Lib.hid hF
    clear hF
    have cg3 := cellF (Ytmjfbilhalkegaa.kept HF.out.be HG3.out)
    have HTr := Lib.hid (HT.out.kept (below_then HB.out HF.out.be))
    rcases (show k = 0 ∨ k = 1 ∨ k = 2 by omega) with rfl | rfl | rfl
    · have HL := Lib.hid HTr.out.b
      cases hg : gt n lb with
      | none =>
        have cgt := get_out n HL.out hg
        rw [oa0] at cgt
        go_wp2_with (first | (go_at_call 37; (with_reducible refine (cgt).mono ?_); rintro e w4 ⟨rfl, hb4⟩) | ((with_reducible refine at_alloc 30 ?_); refine wpList_alloc_named rfl 30 rfl (zo) (by kernel_rfl) ?_) | ((with_reducible refine at_store 30 ?_); refine wpList_store_new rfl 30 _ _ rfl zo _ _ _ rfl (by simp) rfl (by rw [HZ.out]; kernel_rfl) rfl HZA.out ?_))
        go_roundg (2 - 1)
        case measure => omega
        case rel => exact ⟨1, by omega, rfl, rfl, ⟨fun _ => hg, fun h => by omega, below_alloc (below_then HF.out.be hb4) _⟩⟩
      | some ox =>
        have FNL := fun hg => fn_b (gb := gb) (gs := gs) (ls := ls) (n := n) (lb := lb) (o := ox) hg
        have HO := Lib.hid (show (oa ox).all (·.oneCell') = true from (oa_ord (HL.out.ok ox (gt_mem hg))).all)
        have HSZ := Lib.hid (show (oa ox).size = 5 from rfl)
        have HEX := Lib.hid (extract_all HSZ.out)
        have cgt := get_in n HL.out hg
        have HFN := Lib.hid (FNL hg)
        generalize hOX : oa ox = OX at *
        clear hg hOX
        go_wp2_with (first | (go_at_call 37; (with_reducible refine (cgt).mono ?_); rintro e w4 ⟨rfl, hb4⟩; have hr4 := Ytmjfbilhalkegaa.kept (below_then HF.out.be hb4) HR.out; have hx9 := heap_alloc_new w4 (Obj.cells OX 30); have hr5 := heap_up (o := Obj.cells OX 30) hr4; have hbw := below_alloc (below_then HB.out (below_then HF.out.be hb4)) (Obj.cells OX 30)) | ((with_reducible refine at_alloc 30 ?_); refine wpList_alloc_named rfl 30 rfl (zo) (by kernel_rfl) ?_) | ((with_reducible refine at_store 30 ?_); refine wpList_store_new rfl 30 _ _ rfl (OX) _ _ _ rfl (by simp) rfl (by rw [HSZ.out]; kernel_rfl) (by rw [HSZ.out]; rfl) (HO.out) ?_) | ((with_reducible refine at_load 30 ?_); refine wpList_load_part rfl 30 _ rfl (w4.heap.size) (0) rfl _ (OX) _ _ 5 (hx9) Try.underlying30 rfl (by kernel_rfl) (by rw [HSZ.out]; omega) (OX) (HEX.out) ?_) | ((with_reducible refine at_store 30 ?_); refine wpList_store_over rfl 30 _ _ rfl (w.heap.size) (OX) rfl rfl _ _ (hr5) (by rw [HSZ.out]; kernel_rfl) (by rw [HSZ.out]; rfl) (HO.out) ?_; intro w6 hg6 hs6 ho6 hb6))
        exact post_cell_tmp (g := w.heap.size) (t := 30) rfl rfl rfl rfl hg6 Try.underlying30 rfl (by rw [HSZ.out]; kernel_rfl) ⟨by rw [HFN.out.1, HFN.out.2]; rfl, hbw.trans (hb6 _ (Nat.le_refl _))⟩
    · have HL := Lib.hid HTr.out.s
      cases hg : gt n ls with
      | none =>
        have cgt := get_out n HL.out hg
        rw [oa0] at cgt
        go_wp2_with (first | (go_at_call 37; (with_reducible refine (cgt).mono ?_); rintro e w4 ⟨rfl, hb4⟩) | ((with_reducible refine at_alloc 30 ?_); refine wpList_alloc_named rfl 30 rfl (zo) (by kernel_rfl) ?_) | ((with_reducible refine at_store 30 ?_); refine wpList_store_new rfl 30 _ _ rfl zo _ _ _ rfl (by simp) rfl (by rw [HZ.out]; kernel_rfl) rfl HZA.out ?_))
        go_roundg (2 - 2)
        case measure => omega
        case rel => exact ⟨2, by omega, rfl, rfl, ⟨fun _ => HF.out.h1 (by omega), fun _ => hg, below_alloc (below_then HF.out.be hb4) _⟩⟩
      | some ox =>
        have FNL := fun hg => fn_s (gb := gb) (gs := gs) (ls := ls) (n := n) (lb := lb) (o := ox) (HF.out.h1 (by omega)) hg
        have HO := Lib.hid (show (oa ox).all (·.oneCell') = true from (oa_ord (HL.out.ok ox (gt_mem hg))).all)
        have HSZ := Lib.hid (show (oa ox).size = 5 from rfl)
        have HEX := Lib.hid (extract_all HSZ.out)
        have cgt := get_in n HL.out hg
        have HFN := Lib.hid (FNL hg)
        generalize hOX : oa ox = OX at *
        clear hg hOX
        go_wp2_with (first | (go_at_call 37; (with_reducible refine (cgt).mono ?_); rintro e w4 ⟨rfl, hb4⟩; have hr4 := Ytmjfbilhalkegaa.kept (below_then HF.out.be hb4) HR.out; have hx9 := heap_alloc_new w4 (Obj.cells OX 30); have hr5 := heap_up (o := Obj.cells OX 30) hr4; have hbw := below_alloc (below_then HB.out (below_then HF.out.be hb4)) (Obj.cells OX 30)) | ((with_reducible refine at_alloc 30 ?_); refine wpList_alloc_named rfl 30 rfl (zo) (by kernel_rfl) ?_) | ((with_reducible refine at_store 30 ?_); refine wpList_store_new rfl 30 _ _ rfl (OX) _ _ _ rfl (by simp) rfl (by rw [HSZ.out]; kernel_rfl) (by rw [HSZ.out]; rfl) (HO.out) ?_) | ((with_reducible refine at_load 30 ?_); refine wpList_load_part rfl 30 _ rfl (w4.heap.size) (0) rfl _ (OX) _ _ 5 (hx9) Try.underlying30 rfl (by kernel_rfl) (by rw [HSZ.out]; omega) (OX) (HEX.out) ?_) | ((with_reducible refine at_store 30 ?_); refine wpList_store_over rfl 30 _ _ rfl (w.heap.size) (OX) rfl rfl _ _ (hr5) (by rw [HSZ.out]; kernel_rfl) (by rw [HSZ.out]; rfl) (HO.out) ?_; intro w6 hg6 hs6 ho6 hb6))
        exact post_cell_tmp (g := w.heap.size) (t := 30) rfl rfl rfl rfl hg6 Try.underlying30 rfl (by rw [HSZ.out]; kernel_rfl) ⟨by rw [HFN.out.1, HFN.out.2]; rfl, hbw.trans (hb6 _ (Nat.le_refl _))⟩
    · have hr4 := Ytmjfbilhalkegaa.kept HF.out.be HR.out
      have hfn := fn_n (gb := gb) (gs := gs) (HF.out.h1 (by omega)) (HF.out.h2 (by omega))
      have HFN := Lib.hid hfn
      clear hfn
      have HBF := Lib.hid (below_then HB.out HF.out.be)
      go_wp2_with (first | ((with_reducible refine at_build 30 ?_); refine wpList_build_named rfl 30 _ rfl zo (by kernel_rfl) ?_) | ((with_reducible refine at_store 30 ?_); refine wpList_store_over rfl 30 _ _ rfl (w.heap.size) (zo) rfl rfl _ _ (hr4) (by rw [HZ.out]; kernel_rfl) (rfl) (HZA.out) ?_; intro w6 hg6 hs6 ho6 hb6))
      exact post_cell_tmp (g := w.heap.size) (t := 30) (v := .pointer none) rfl rfl rfl rfl hg6 Try.underlying30 rfl (by kernel_rfl) ⟨by rw [HFN.out.1, HFN.out.2], HBF.out.trans (hb6 _ (Nat.le_refl _))⟩
end Go.Proofs.Ytmjfbilhalkegaa
/-! A book: what a price reaches, and what is left of an order that meets a side. Condition: the orders may be. -/
namespace Go.Proofs.Ytmjfbilhalkegaa
set_option linter.unusedVariables false
set_option linter.unusedSimpArgs false
open Go.RowKit Go.Deep

/-- orders that may be -/
def Good (l : List Od) : Prop := ∀ x, x ∈ l → okO (oa x) = true
theorem Good.q {l : List Od} (h : Good l) {x : Od} (hx : x ∈ l) : 1 ≤ x.q ∧ x.q ≤ 1000000 := okO_q (h x hx)
theorem Good.tail {x : Od} {r : List Od} (h : Good (x :: r)) : Good r := fun y hy => h y (by simp [hy])
theorem crs_bet (o : Od) (p : Int) : bet (!o.b) o.p p = !(crs o p) := by
  unfold bet crs
  cases o.b
  · by_cases h : o.p ≤ p
    · simp [h]
    · simp [h]; omega
  · by_cases h : p ≤ o.p
    · simp [h]
    · simp [h]; omega
theorem rch_pos {b : Bool} {p a : Int} : ∀ {l : List Od}, Good l → 0 ≤ rch b p a l
  | [], _ => by unfold rch; omega
  | x :: r, h => by
    have h1 := rch_pos (b := b) (p := p) (a := a) h.tail
    have h2 := h.q (x := x) (by simp)
    unfold rch
    split
    · omega
    · split <;> omega
theorem meet_left {o : Od} : ∀ {l : List Od} {left : Int}, 0 ≤ left → Good l → (meet o left l).left = max 0 (left - rch (!o.b) o.p o.a l)
  | [], left, h0, _ => by
    show left = max 0 (left - 0)
    omega
  | x :: r, left, h0, h => by
    have hp := rch_pos (b := !o.b) (p := o.p) (a := o.a) h
    have hp2 := rch_pos (b := !o.b) (p := o.p) (a := o.a) h.tail
    have hq := h.q (x := x) (by simp)
    by_cases hl : left ≤ 0
    · rw [meet_done hl]; show left = _; omega
    · cases hc : crs o x.p with
      | false =>
        rw [meet_stop hc]
        unfold rch
        rw [crs_bet, hc]
        simp
        omega
      | true =>
        have hb : bet (!o.b) o.p x.p = false := by rw [crs_bet, hc]; rfl
        have hr : rch (!o.b) o.p o.a (x :: r) = (if x.a = o.a then 0 else x.q) + rch (!o.b) o.p o.a r := by
          conv => lhs; unfold rch
          rw [hb, if_neg (by decide)]
        rw [hr]
        unfold meet
        rw [if_neg hl, if_neg (by rw [hc]; decide)]
        by_cases ha : x.a = o.a
        · rw [if_pos ha, if_pos ha]
          show (meet o left r).left = _
          rw [meet_left h0 h.tail]; omega
        · rw [if_neg ha, if_neg ha]
          by_cases hq2 : left < x.q
          · rw [if_pos hq2]
            show (0 : Int) = _
            omega
          · rw [if_neg hq2]
            show (meet o (left - x.q) r).left = _
            rw [meet_left (by omega) h.tail]; omega
/-- the first j, without one's own -/
def sm (a : Int) (l : List Od) : Nat → Int
  | 0 => 0
  | j + 1 => sm a l j + (if (od l j).a = a then 0 else (od l j).q)
theorem sm_cons {a : Int} {x : Od} {r : List Od} : ∀ j, sm a (x :: r) (j + 1) = (if x.a = a then 0 else x.q) + sm a r j
  | 0 => by show 0 + (if x.a = a then 0 else x.q) = _; unfold sm; omega
  | j + 1 => by
    show sm a (x :: r) (j + 1) + (if (od (x :: r) (j + 1)).a = a then 0 else (od (x :: r) (j + 1)).q) = _
    rw [sm_cons j, od_s]
    show _ = _ + (sm a r j + _)
    omega
theorem od_in {l : List Od} {j : Nat} (h : j < l.length) : od l j ∈ l := by
  unfold od
  rw [List.getD_eq_getElem?_getD, List.getElem?_eq_getElem h]
  exact List.getElem_mem h
theorem rchA_sm {a : Int} {l : List Od} (h : Good l) (hl : l.length ≤ 1000) : ∀ j, j ≤ l.length → rchA (fun i => oa (od l i)) a j = sm a l j ∧ 0 ≤ sm a l j ∧ sm a l j ≤ (j : Int) * 1000000
  | 0, _ => ⟨rfl, by unfold sm; omega, by unfold sm; omega⟩
  | j + 1, hj => by
    obtain ⟨h1, h2, h3⟩ := rchA_sm h hl j (by omega)
    have hq := h.q (od_in (l := l) (j := j) (by omega))
    unfold rchA sm
    rw [oa_N1, oa_N4, h1]
    split
    · exact ⟨by omega, by omega, by push_cast; omega⟩
    · refine ⟨?_, by omega, by push_cast; omega⟩
      unfold wrap64
      omega
theorem rch_at {b : Bool} {p a : Int} : ∀ {l : List Od} {j : Nat}, j ≤ l.length → (∀ i, i < j → bet b p (od l i).p = false) → (j = l.length ∨ bet b p (od l j).p = true) → rch b p a l = sm a l j
  | [], j, h1, _, _ => by
    have : j = 0 := by simpa using h1
    subst this; rfl
  | x :: r, 0, h1, h2, h3 => by
    have h4 : bet b p x.p = true := by
      rcases h3 with h3 | h3
      · simp at h3
      · exact h3
    unfold rch
    rw [if_pos h4]; rfl
  | x :: r, j + 1, h1, h2, h3 => by
    have h4 : bet b p x.p = false := h2 0 (by omega)
    unfold rch
    rw [if_neg (by rw [h4]; decide), sm_cons]
    rw [rch_at (l := r) (j := j) (by simpa using h1) (fun i hi => by have := h2 (i + 1) (by omega); rwa [od_s] at this) (by
      rcases h3 with h3 | h3
      · left; simpa using h3
      · right; rwa [od_s] at h3)]
theorem reach_any {w : World} {g base : Nat} {b : Bool} {l : List Od} (p a : Int) (h : SL w g base b l) (hg : Good l) :
    Calls Try.prog 29 #[.pointer (some ⟨g, 0, none⟩), .int .i64 p, .int .u32 a] w fun e w' => e = .returned (.int .i64 (rch b p a l)) ∧ Below w.heap.size w w' := by
  refine (sreach_yes p a h.s).mono ?_
  rintro e w' ⟨⟨j, h1, h2, h3, rfl⟩, hb⟩
  refine ⟨?_, hb⟩
  have h4 : j = l.length ∨ bet b p (od l j).p = true := by
    rcases h3 with h3 | h3
    · exact .inl h3
    · rw [oa_N3] at h3; exact .inr h3
  rw [(rchA_sm hg h.s.hk j h1).1, rch_at h1 (fun i hi => by have := h2 i hi; rwa [oa_N3] at this) h4]
theorem may_any {o : Od} (w : World) (h : OkO o) : Calls Try.prog 26 #[.agg (oa o)] w fun e w' => e = .returned (.bool (okO (oa o))) ∧ Below w.heap.size w w' := omay_any (oa o) w (oa_ord h)
end Go.Proofs.Ytmjfbilhalkegaa
