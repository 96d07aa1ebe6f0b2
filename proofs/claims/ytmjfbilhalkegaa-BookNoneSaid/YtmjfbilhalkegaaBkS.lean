/- A side as a list of orders: its calls. Condition: the side is one. -/
import Derived.Test.YtmjfbilhalkegaaBkP
namespace Go.Proofs.Ytmjfbilhalkegaa
set_option linter.unusedVariables false
set_option linter.unusedSimpArgs false
open Go.RowKit

/-- what a call of a side leaves -/
structure SK (g base : Nat) (buy : Bool) (l : List Od) (w w' : World) : Prop where
  s : SL w' g base buy l
  be : Below base w w'
  ko : Ko g w w'
  ks : Ks g w w'
theorem sl_low {w : World} {g base : Nat} {buy : Bool} {l : List Od} (h : SL w g base buy l) : base ≤ w.heap.size := by
  obtain ⟨v, hg, _⟩ := h.s.row
  have := (Array.getElem?_eq_some_iff.1 hg).1; have := h.s.bg; omega
theorem sk_same {w w' : World} {g base : Nat} {buy : Bool} {l : List Od} (h : SL w g base buy l) (hb : Below w.heap.size w w') : SK g base buy l w w' := ⟨h.kept hb, hb.mono (sl_low h), ko_below hb, ks_below hb⟩
theorem od_z (x : Od) (r : List Od) : od (x :: r) 0 = x := rfl
theorem od_s (x : Od) (r : List Od) (i : Nat) : od (x :: r) (i + 1) = od r i := rfl
theorem best_nil {w : World} {g base : Nat} {buy : Bool} (h : SL w g base buy []) : Calls Try.prog 40 #[.pointer (some ⟨g, 0, none⟩)] w fun e w' => e = .returned (.tuple #[.agg (oa od0), .bool false]) ∧ Below w.heap.size w w' := sbest_zero h.s
theorem best_cons {w : World} {g base : Nat} {buy : Bool} {x : Od} {r : List Od} (h : SL w g base buy (x :: r)) : Calls Try.prog 40 #[.pointer (some ⟨g, 0, none⟩)] w fun e w' => e = .returned (.tuple #[.agg (oa x), .bool true]) ∧ Below w.heap.size w w' := sbest_yes h.s (by simp)
theorem fill_part {w : World} {g base : Nat} {buy : Bool} {x : Od} {r : List Od} (n : Int) (h : SL w g base buy (x :: r)) (h1 : 1 ≤ n) (h2 : n < x.q) :
    Calls Try.prog 42 #[.pointer (some ⟨g, 0, none⟩), .int .i64 n] w fun e w' => (∃ v, e = .returned (.tuple #[.agg v, .int .i64 0])) ∧ SK g base buy ({ x with q := x.q - n } :: r) w w' := by
  have e0 : N (oa (od (x :: r) 0)) 4 = x.q := oa_N4 x
  have hx := h.ok x (by simp)
  refine (sfill_some_k n h.s (by simp) h1 (by rw [e0]; exact h2)).mono fun e w' ⟨q1, q2, q3, q4, q5⟩ => ⟨⟨_, q1⟩, sl_of q2 rfl (fun o ho => ?_) (fun i hi => ?_), q3, q4, q5⟩
  · rcases List.mem_cons.1 ho with rfl | ho
    · have := hx.q
      exact ⟨hx.n, hx.a, hx.p, by show F64 (x.q - n); unfold F64 at this ⊢; omega⟩
    · exact h.ok o (by simp [ho])
  · rw [e0]
    unfold lo
    cases i with
    | zero => rfl
    | succ i => rfl
theorem fill_whole {w : World} {g base : Nat} {buy : Bool} {x : Od} {r : List Od} (h : SL w g base buy (x :: r)) (h1 : 1 ≤ x.q) :
    Calls Try.prog 42 #[.pointer (some ⟨g, 0, none⟩), .int .i64 x.q] w fun e w' => (∃ v, e = .returned (.tuple #[.agg v, .int .i64 0])) ∧ SK g base buy r w w' := by
  have e0 : N (oa (od (x :: r) 0)) 4 = x.q := oa_N4 x
  have c := sfill_all_k h.s (by simp) (by rw [e0]; exact h1)
  rw [e0] at c
  refine c.mono fun e w' ⟨q1, q2, q3, q4, q5⟩ => ⟨⟨_, q1⟩, sl_of q2 (by simp) (fun o ho => h.ok o (by simp [ho])) (fun i hi => ?_), q3, q4, q5⟩
  unfold rem
  rw [if_neg (by omega)]
  rfl
/-- the place of a number -/
def ix (n : Int) (l : List Od) : Int := fi (fun j => decide (N (oa (od l j)) 0 = n)) l.length
theorem fi_uni {q : Nat → Bool} {k i : Nat} (hi : i < k) (hq : q i = true) (hl : ∀ j, j < i → q j = false) : fi q k = i := fi_hit (fi_no i hl) hq hi
theorem ix_none {n : Int} : ∀ {l : List Od}, gt n l = none → ∀ j, j < l.length → (od l j).n ≠ n
  | [], _, j, hj => by simp at hj
  | x :: r, h, j, hj => by
    unfold gt at h
    by_cases e : x.n = n
    · rw [if_pos e] at h; cases h
    · rw [if_neg e] at h
      cases j with
      | zero => exact e
      | succ j => exact ix_none h j (by simpa using hj)
theorem ix_some {n : Int} {o : Od} : ∀ {l : List Od}, gt n l = some o → ∃ i, i < l.length ∧ od l i = o ∧ o.n = n ∧ (∀ j, j < i → (od l j).n ≠ n) ∧ ∀ j, od (del n l) j = if j < i then od l j else od l (j + 1)
  | [], h => by cases h
  | x :: r, h => by
    unfold gt at h
    by_cases e : x.n = n
    · rw [if_pos e] at h
      cases h
      refine ⟨0, by simp, rfl, e, fun j hj => by omega, fun j => ?_⟩
      rw [if_neg (by omega)]
      unfold del
      rw [if_pos e]
      rfl
    · rw [if_neg e] at h
      obtain ⟨i, h1, h2, h3, h4, h5⟩ := ix_some h
      refine ⟨i + 1, by simpa using h1, h2, h3, fun j hj => ?_, fun j => ?_⟩
      · cases j with
        | zero => exact e
        | succ j => exact h4 j (by omega)
      · unfold del
        rw [if_neg e]
        cases j with
        | zero => rw [if_pos (by omega)]; rfl
        | succ j =>
          rw [od_s, h5 j]
          by_cases hj : j < i
          · rw [if_pos hj, if_pos (by omega)]; rfl
          · rw [if_neg hj, if_neg (by omega)]; rfl
theorem del_len {n : Int} {o : Od} : ∀ {l : List Od}, gt n l = some o → (del n l).length = l.length - 1
  | [], h => by cases h
  | x :: r, h => by
    unfold gt at h
    unfold del
    by_cases e : x.n = n
    · rw [if_pos e]; simp
    · rw [if_neg e] at h
      rw [if_neg e, List.length_cons, del_len h]
      have : 0 < r.length := by cases r with
        | nil => cases h
        | cons y s => simp
      simp; omega
theorem del_mem {n : Int} : ∀ {l : List Od} {o : Od}, o ∈ del n l → o ∈ l
  | [], o, h => by cases h
  | x :: r, o, h => by
    unfold del at h
    by_cases e : x.n = n
    · rw [if_pos e] at h; simp [h]
    · rw [if_neg e] at h
      rcases List.mem_cons.1 h with rfl | h
      · simp
      · simp [del_mem h]
theorem fi_gt {n : Int} {l : List Od} (h : gt n l = none) : fi (fun j => decide (N (oa (od l j)) 0 = n)) l.length = -1 := fi_no _ (fun j hj => by rw [oa_N0]; exact decide_eq_false (ix_none h j hj))
theorem drop_in {w : World} {g base : Nat} {buy : Bool} {l : List Od} {o : Od} (n : Int) (h : SL w g base buy l) (ho : gt n l = some o) :
    Calls Try.prog 33 #[.pointer (some ⟨g, 0, none⟩), .int .u64 n] w fun e w' => e = .returned (.tuple #[.agg (oa o), .int .i64 0]) ∧ SK g base buy (del n l) w w' := by
  obtain ⟨i, h1, h2, h3, h4, h5⟩ := ix_some ho
  have hfi : fi (fun j => decide (N (oa (od l j)) 0 = n)) l.length = i := fi_uni h1 (by rw [oa_N0, h2]; exact decide_eq_true h3) (fun j hj => by rw [oa_N0]; exact decide_eq_false (h4 j hj))
  have c := sdrop_in_k n h.s hfi
  rw [h2] at c
  refine c.mono fun e w' ⟨q1, q2, q3, q4, q5⟩ => ⟨q1, sl_of q2 (by rw [del_len ho]) (fun o ho => h.ok o (del_mem ho)) (fun j hj => ?_), q3, q4, q5⟩
  unfold rem
  rw [h5 j]
  split <;> rfl
theorem get_in {w : World} {g base : Nat} {buy : Bool} {l : List Od} {o : Od} (n : Int) (h : SL w g base buy l) (ho : gt n l = some o) :
    Calls Try.prog 37 #[.pointer (some ⟨g, 0, none⟩), .int .u64 n] w fun e w' => e = .returned (.tuple #[.agg (oa o), .int .i64 0]) ∧ Below w.heap.size w w' := by
  obtain ⟨i, h1, h2, h3, h4, h5⟩ := ix_some ho
  have hfi : fi (fun j => decide (N (oa (od l j)) 0 = n)) l.length = i := fi_uni h1 (by rw [oa_N0, h2]; exact decide_eq_true h3) (fun j hj => by rw [oa_N0]; exact decide_eq_false (h4 j hj))
  have hb0 := below_new w (Obj.cells zo 30)
  have hc := heap_alloc_new w (Obj.cells zo 30)
  have cf := sfind_yes n (h.s.kept hb0) hfi
  obtain ⟨v, hg, hrow⟩ := h.s.row
  obtain ⟨ra, rc, rfl, hR, _⟩ := own_rows (c := 5) (fun i => (h.s.ord i).size) hrow
  have HG := Lib.hid hg
  have HR := Lib.hid hR
  have hx : oa (od l i) = oa o := by rw [h2]
  have HM := Lib.hid (show (oa o).size = 5 from rfl)
  have HZ := Lib.hid zo_size
  have HMA := Lib.hid (show (oa o).all (·.oneCell') = true from by rw [← h2]; exact (h.s.ord i).all)
  have hil : (i : Int) < l.length := by omega
  generalize hOA : oa o = M at *
  clear h ho h4 h5 hfi hrow hR hg hOA
  go_enter Try.func37, Try.ntmps37
  go_wp2_with (first | ((with_reducible refine at_alloc 30 ?_); refine wpList_alloc_named rfl 30 rfl zo (by kernel_rfl) ?_) | (go_at_call 44; (with_reducible refine (cf).mono ?_); rintro e w1 ⟨rfl, hb1⟩; have hb01 := below_then hb0 hb1; have hc1 := Ytmjfbilhalkegaa.kept hb1 hc; have c1 := cellF (Ytmjfbilhalkegaa.kept hb01 HG.out); obtain ⟨gb, off, A, fr, rfl, hgA, hsA, hxA⟩ := (rowsT_kept HR.out hb01) i h1; have HX := Lib.hid (show A.extract (off + i * 5) (off + i * 5 + 5) = M from (show A.extract (off + i * 5) (off + i * 5 + 5) = oa (od l i) from hxA).trans hx)) | ((with_reducible refine at_load 30 ?_); refine wpList_load_part rfl 30 _ rfl (gb) (off + i * 5) rfl _ (A) _ _ 5 (hgA) Try.underlying30 rfl (by kernel_rfl) (hsA) (M) (HX.out) ?_) | ((with_reducible refine at_store 30 ?_); refine wpList_store_over rfl 30 _ _ rfl (w.heap.size) (M) rfl rfl _ _ (hc1) (by rw [HM.out]; kernel_rfl) (by rw [HM.out]; exact HZ.out) (HMA.out) ?_; intro w3 hg5 hs5 ho6 hb6))
  exact post_cell_tmp (g := w.heap.size) (t := 30) (v := .int .i64 0) rfl rfl rfl rfl hg5 Try.underlying30 rfl (by rw [HM.out]; kernel_rfl) ⟨rfl, hb01.trans (hb6 _ (Nat.le_refl _))⟩
theorem get_out {w : World} {g base : Nat} {buy : Bool} {l : List Od} (n : Int) (h : SL w g base buy l) (ho : gt n l = none) :
    Calls Try.prog 37 #[.pointer (some ⟨g, 0, none⟩), .int .u64 n] w fun e w' => e = .returned (.tuple #[.agg (oa od0), .int .i64 7]) ∧ Below w.heap.size w w' := by
  have hb0 := below_new w (Obj.cells zo 30)
  have hc := heap_alloc_new w (Obj.cells zo 30)
  have cf := sfind_out n (h.s.kept hb0) (fi_gt ho)
  have HZ := Lib.hid zo_size
  have HMA := Lib.hid zo_all
  rw [oa0]
  clear h ho
  go_enter Try.func37, Try.ntmps37
  go_wp2_with (first | ((with_reducible refine at_alloc 30 ?_); refine wpList_alloc_named rfl 30 rfl zo (by kernel_rfl) ?_) | (go_at_call 44; (with_reducible refine (cf).mono ?_); rintro e w1 ⟨rfl, hb1⟩; have hb01 := below_then hb0 hb1; have hc1 := Ytmjfbilhalkegaa.kept hb1 hc) | ((with_reducible refine at_build 30 ?_); refine wpList_build_named rfl 30 _ rfl zo (by kernel_rfl) ?_) | ((with_reducible refine at_store 30 ?_); refine wpList_store_over rfl 30 _ _ rfl (w.heap.size) (zo) rfl rfl _ _ (hc1) (by rw [HZ.out]; kernel_rfl) (rfl) (HMA.out) ?_; intro w3 hg5 hs5 ho6 hb6))
  exact post_cell_tmp (g := w.heap.size) (t := 30) (v := .int .i64 7) rfl rfl rfl rfl hg5 Try.underlying30 rfl (by kernel_rfl) ⟨rfl, hb01.trans (hb6 _ (Nat.le_refl _))⟩
theorem put_len (buy : Bool) (o : Od) : ∀ l, (put buy o l).length = l.length + 1
  | [] => rfl
  | x :: r => by unfold put; split <;> simp [put_len buy o r]
theorem put_mem {buy : Bool} {o x : Od} : ∀ {l}, x ∈ put buy o l → x = o ∨ x ∈ l
  | [], h => by left; simpa [put] using h
  | y :: r, h => by
    unfold put at h
    split at h
    · simpa using h
    · rcases List.mem_cons.1 h with rfl | h
      · exact .inr (by simp)
      · rcases put_mem h with h | h
        · exact .inl h
        · exact .inr (by simp [h])
/-- the place that an order comes to -/
def pt (buy : Bool) (o : Od) : List Od → Nat
  | [] => 0
  | x :: r => if bet buy o.p x.p then 0 else pt buy o r + 1
theorem pt_le (buy : Bool) (o : Od) : ∀ l, pt buy o l ≤ l.length
  | [] => Nat.le_refl _
  | x :: r => by unfold pt; split; · simp
                 · have := pt_le buy o r; simp; omega
theorem pt_lt {buy : Bool} {o : Od} : ∀ {l : List Od} {j}, j < pt buy o l → bet buy o.p (od l j).p = false
  | [], j, h => by simp [pt] at h
  | x :: r, j, h => by
    unfold pt at h
    split at h
    · omega
    · rename_i hx
      cases j with
      | zero => show bet buy o.p x.p = false; simpa using hx
      | succ j => exact pt_lt (l := r) (by omega)
theorem pt_at {buy : Bool} {o : Od} : ∀ {l : List Od}, pt buy o l < l.length → bet buy o.p (od l (pt buy o l)).p = true
  | [], h => by simp [pt] at h
  | x :: r, h => by
    unfold pt at h ⊢
    by_cases hx : bet buy o.p x.p = true
    · rw [if_pos hx]; exact hx
    · rw [if_neg hx] at h ⊢
      exact pt_at (l := r) (by simpa using h)
theorem put_od {buy : Bool} {o : Od} : ∀ {l : List Od} (j : Nat), od (put buy o l) j = if j < pt buy o l then od l j else if j = pt buy o l then o else od l (j - 1)
  | [], j => by
    unfold put pt
    rw [if_neg (by omega)]
    cases j with
    | zero => rfl
    | succ j => rw [if_neg (by omega)]; rfl
  | x :: r, j => by
    unfold put pt
    by_cases hx : bet buy o.p x.p = true
    · rw [if_pos hx, if_pos hx, if_neg (by omega)]
      cases j with
      | zero => rfl
      | succ j => rw [if_neg (by omega)]; rfl
    · rw [if_neg hx, if_neg hx]
      cases j with
      | zero => rw [if_pos (show 0 < pt buy o r + 1 by omega)]; rfl
      | succ j =>
        rw [od_s, put_od j]
        by_cases h1 : j < pt buy o r
        · rw [if_pos h1, if_pos (show j + 1 < pt buy o r + 1 by omega)]; rfl
        · by_cases h2 : j = pt buy o r
          · rw [if_neg h1, if_pos h2, if_neg (show ¬ j + 1 < pt buy o r + 1 by omega), if_pos (show j + 1 = pt buy o r + 1 by omega)]
          · rw [if_neg h1, if_neg h2, if_neg (show ¬ j + 1 < pt buy o r + 1 by omega), if_neg (show ¬ j + 1 = pt buy o r + 1 by omega)]
            obtain ⟨j, rfl⟩ : ∃ i, j = i + 1 := ⟨j - 1, by omega⟩
            rfl
theorem plc_pt {buy : Bool} {o : Od} {l : List Od} : plc buy (fun i => oa (od l i)) (oa o) l.length = pt buy o l := by
  have hle := pt_le buy o l
  unfold plc
  simp only [oa_N3]
  by_cases h : pt buy o l < l.length
  · rw [fi_uni (q := fun i => bet buy o.p (od l i).p) h (pt_at h) (fun j hj => pt_lt hj), if_neg (by omega)]
    simp
  · rw [fi_no (q := fun i => bet buy o.p (od l i).p) l.length (fun j hj => pt_lt (by omega)), if_pos (by omega)]
    omega
theorem add_ok {w : World} {g base : Nat} {buy : Bool} {l : List Od} {o : Od} (h : SL w g base buy l) (ho : OkO o) (hok : okO (oa o) = true) (hb : o.b = buy) (hfr : gt o.n l = none) (hk : l.length < 100) :
    Calls Try.prog 43 #[.pointer (some ⟨g, 0, none⟩), .agg (oa o)] w fun e w' => e = .returned (.int .i64 0) ∧ SK g base buy (put buy o l) w w' := by
  refine (sadd_ok_k buy h.s (oa_ord ho) hok (by rw [oa_B2]; exact hb) (fun i hi => by rw [oa_N0, oa_N0]; exact ix_none hfr i hi) hk).mono fun e w' ⟨q1, q2, q3, q4, q5⟩ => ⟨q1, sl_of q2 (by rw [put_len]) (fun x hx => ?_) (fun j hj => ?_), q3, q4, q5⟩
  · rcases put_mem hx with rfl | hx
    · exact ho
    · exact h.ok x hx
  · rw [plc_pt, put_od]
    unfold ins
    split
    · rfl
    · split <;> rfl
theorem len_any {w : World} {g base : Nat} {buy : Bool} {l : List Od} (h : SL w g base buy l) : Calls Try.prog 30 #[.pointer (some ⟨g, 0, none⟩)] w fun e w' => e = .returned (.int .i64 (l.length : Nat)) ∧ w = w' := slen_yes h.s
end Go.Proofs.Ytmjfbilhalkegaa
