/- SettleIdle, walked: it returns true; those who win and lose nothing can be left out. Condition: the numbers fit their kinds. -/
import Derived.Test.YticdcdahehodkaaKeep13
namespace Go.Proofs.Yticdcdahehodkaa
set_option linter.unusedVariables false
set_option linter.unusedSimpArgs false

/-- the i-th of those who are kept -/
def atP (P : Nat → Nat) : Nat → Nat → Nat
  | 0 => fun _ => 0
  | k + 1 => if 0 < P k then put (atP P k) (tm P k) k else atP P k
theorem atP_at {P : Nat → Nat} : ∀ k i, i < k → 0 < P i → atP P k (tm P i) = i
  | 0, i, h, _ => by omega
  | k + 1, i, h, hp => by
    show (if 0 < P k then put (atP P k) (tm P k) k else atP P k) (tm P i) = i
    by_cases e : i = k
    · subst e; rw [if_pos hp]; exact put_at _ _ _
    · have hlt : tm P i < tm P k := tm_lt (show i < k by omega) hp
      split
      · rw [put_ne _ _ (by omega)]; exact atP_at k i (by omega) hp
      · exact atP_at k i (by omega) hp
theorem atP_lt {P : Nat → Nat} : ∀ k j, j < tm P k → atP P k j < k ∧ 0 < P (atP P k j) ∧ tm P (atP P k j) = j
  | 0, j, h => by simp [tm, cnt, sumN] at h
  | k + 1, j, h => by
    rw [tm_succ] at h
    show (if 0 < P k then put (atP P k) (tm P k) k else atP P k) j < k + 1 ∧ 0 < P ((if 0 < P k then put (atP P k) (tm P k) k else atP P k) j) ∧ tm P ((if 0 < P k then put (atP P k) (tm P k) k else atP P k) j) = j
    by_cases hp : 0 < P k
    · rw [if_pos hp] at h ⊢
      by_cases e : j = tm P k
      · have e2 : put (atP P k) (tm P k) k j = k := by rw [e]; exact put_at _ _ _
        rw [e2]; exact ⟨by omega, hp, e.symm⟩
      · rw [put_ne _ _ e]
        obtain ⟨h1, h2, h3⟩ := atP_lt (P := P) k j (by omega)
        exact ⟨by omega, h2, h3⟩
    · rw [if_neg hp] at h ⊢
      obtain ⟨h1, h2, h3⟩ := atP_lt (P := P) k j (by omega)
      exact ⟨by omega, h2, h3⟩
theorem keep_sum {P : Nat → Nat} {f : Nat → Nat} (n : Nat) (h0 : ∀ i, i < n → ¬ 0 < P i → f i = 0) : ∀ k, k ≤ n → sumN (fun j => f (atP P n j)) (tm P k) = sumN f k
  | 0, _ => rfl
  | k + 1, hk => by
    have ih := keep_sum n h0 k (by omega)
    rw [tm_succ]
    by_cases hp : 0 < P k
    · rw [if_pos hp]
      show sumN (fun j => f (atP P n j)) (tm P k) + f (atP P n (tm P k)) = sumN f k + f k
      rw [ih, atP_at n k (by omega) hp]
    · rw [if_neg hp]
      show sumN (fun j => f (atP P n j)) (tm P k) = sumN f k + f k
      rw [ih, h0 k (by omega) hp]; rfl
theorem keep_sumZ {P : Nat → Nat} {f : Nat → Int} (n : Nat) (h0 : ∀ i, i < n → ¬ 0 < P i → f i = 0) : ∀ k, k ≤ n → sumZ (fun j => f (atP P n j)) (tm P k) = sumZ f k
  | 0, _ => rfl
  | k + 1, hk => by
    have ih := keep_sumZ n h0 k (by omega)
    rw [tm_succ]
    by_cases hp : 0 < P k
    · rw [if_pos hp]
      show sumZ (fun j => f (atP P n j)) (tm P k) + f (atP P n (tm P k)) = sumZ f k + f k
      rw [ih, atP_at n k (by omega) hp]
    · rw [if_neg hp]
      show sumZ (fun j => f (atP P n j)) (tm P k) = sumZ f k + f k
      rw [ih, h0 k (by omega) hp]; omega
theorem keep_mono {P : Nat → Nat} {n i j : Nat} (hi : i < tm P n) (hj : j < tm P n) : (i < j ↔ atP P n i < atP P n j) := by
  obtain ⟨h1, h2, h3⟩ := atP_lt (P := P) n i hi
  obtain ⟨g1, g2, g3⟩ := atP_lt (P := P) n j hj
  constructor
  · intro h
    exact tm_inc (P := P) (by omega)
  · intro h
    have := tm_lt (P := P) h h2
    omega
/-- a split among those who are kept is the split among all -/
theorem prt_keep {W P : Nat → Nat} {n T j : Nat} (hz : ∀ i, i < n → ¬ 0 < P i → W i = 0) (hS : 0 < sumN W n) (hj : j < tm P n) : prt (fun j => W (atP P n j)) (tm P n) T j = prt W n T (atP P n j) := by
  have es : sumN (fun j => W (atP P n j)) (tm P n) = sumN W n := keep_sum n hz n (Nat.le_refl _)
  have ef : ∀ j, flo (fun j => W (atP P n j)) (tm P n) T j = flo W n T (atP P n j) := fun j => by unfold flo; simp only; rw [es]
  have er : ∀ j, res (fun j => W (atP P n j)) (tm P n) T j = res W n T (atP P n j) := fun j => by unfold res; simp only; rw [es]
  have el : lef (fun j => W (atP P n j)) (tm P n) T = lef W n T := by
    unfold lef
    rw [sumN_congr (V := fun j => flo W n T (atP P n j)) _ (fun i _ => ef i), keep_sum (f := flo W n T) n (fun i hi h => by unfold flo; rw [hz i hi h]; simp) n (Nat.le_refl _)]
  obtain ⟨h1, h2, h3⟩ := atP_lt (P := P) n j hj
  unfold prt
  rw [ef, el]
  congr 2
  by_cases hr : 0 < res W n T (atP P n j)
  · have e : rk (rkey (fun j => W (atP P n j)) (tm P n) T) (tm P n) j = rk (rkey W n T) n (atP P n j) := by
      rw [rk_eq, rk_eq]
      have hc := keep_sum (P := P) (f := fun i => b01 (decide (rkey W n T i < rkey W n T (atP P n j) ∨ (rkey W n T i = rkey W n T (atP P n j) ∧ i < atP P n j)))) n (fun i hi h => by
        have e0 : res W n T i = 0 := by unfold res; rw [hz i hi h]; simp
        rw [decide_eq_false (by unfold rkey; rw [e0]; omega)]; rfl) n (Nat.le_refl _)
      unfold cnt
      rw [← hc]
      refine sumN_congr _ fun i hi => ?_
      congr 1
      rw [decide_eq_decide]
      unfold rkey
      rw [er, er]
      have := keep_mono (P := P) hi hj
      omega
    rw [e]
  · rw [decide_eq_false (fun h => hr (more_rest hS h1 h))]
    have hS' : 0 < sumN (fun j => W (atP P n j)) (tm P n) := by rw [es]; exact hS
    rw [decide_eq_false (fun h => hr (by rw [← er]; exact more_rest hS' hj (by rw [el]; exact h)))]
open Go.RowKit

/-- who moves -/
def idP (V : Nat → Int) : Nat → Nat := fun i => if V i = 0 then 0 else 1
theorem idP_pos {V : Nat → Int} {i : Nat} : 0 < idP V i ↔ V i ≠ 0 := by
  unfold idP; split <;> simp_all
/-- how many move among the first k -/
def mv (V : Nat → Int) (k : Nat) : Nat := tm (idP V) k
theorem mv_zero (V : Nat → Int) : mv V 0 = 0 := rfl
theorem mv_yes {V : Nat → Int} {k : Nat} (h : V k ≠ 0) : mv V (k + 1) = mv V k + 1 := by
  unfold mv; rw [tm_succ, if_pos (idP_pos.2 h)]
theorem mv_no {V : Nat → Int} {k : Nat} (h : V k = 0) : mv V (k + 1) = mv V k := by
  unfold mv; rw [tm_succ, if_neg (fun e => idP_pos.1 e h), Nat.add_zero]
theorem mv_le (V : Nat → Int) (k : Nat) : mv V k ≤ k := cnt_le _ _
theorem mv_lt {V : Nat → Int} {i k : Nat} (h : i < k) (hp : V i ≠ 0) : mv V i < mv V k := tm_lt h (idP_pos.2 hp)
/-- the j-th who moves -/
def atM (V : Nat → Int) (n : Nat) : Nat → Nat := atP (idP V) n
theorem atM_at {V : Nat → Int} {n i : Nat} (h : i < n) (hp : V i ≠ 0) : atM V n (mv V i) = i := atP_at n i h (idP_pos.2 hp)
theorem atM_lt {V : Nat → Int} {n j : Nat} (h : j < mv V n) : atM V n j < n ∧ V (atM V n j) ≠ 0 ∧ mv V (atM V n j) = j := by
  obtain ⟨h1, h2, h3⟩ := atP_lt n j h
  exact ⟨h1, idP_pos.1 h2, h3⟩
theorem dmay_inc {A C V : Nat → Int} {n : Nat} (h : dmay A C V n = true) : ∀ k i, i < k → k < n → A i < A k
  | 0, i, hi, _ => by omega
  | k + 1, i, hi, hk => by
    have h1 := (dmay_at h hk).1
    rw [if_neg (by omega), show k + 1 - 1 = k by omega] at h1
    by_cases e : i = k
    · subst e; exact h1
    · have := dmay_inc h k i (by omega) (by omega); omega
theorem dmay_keep {A C V : Nat → Int} {n : Nat} (hA : ∀ i, 0 ≤ A i) (h : dmay A C V n = true) : ∀ k, k ≤ mv V n → dmay (fun j => A (atM V n j)) (fun j => C (atM V n j)) (fun j => V (atM V n j)) k = true
  | 0, _ => rfl
  | k + 1, hk => by
    refine dmay_next (dmay_keep hA h k (by omega)) ?_
    obtain ⟨h1, h2, h3⟩ := atM_lt (V := V) (n := n) (show k < mv V n by omega)
    obtain ⟨g1, g2, g3⟩ := dmay_at h h1
    refine ⟨?_, g2, g3⟩
    by_cases e : k = 0
    · rw [if_pos e]
      show 0 < A (atM V n k)
      split at g1
      · exact g1
      · have := hA (atM V n k - 1); omega
    · rw [if_neg e]
      show A (atM V n (k - 1)) < A (atM V n k)
      refine dmay_inc h _ _ ?_ h1
      exact (keep_mono (P := idP V) (n := n) (show k - 1 < tm (idP V) n by show k - 1 < mv V n; omega) (show k < tm (idP V) n by show k < mv V n; omega)).1 (by omega)
theorem sum_keep {V : Nat → Int} (n : Nat) : sumZ (fun j => V (atM V n j)) (mv V n) = sumZ V n :=
  keep_sumZ (P := idP V) (f := V) n (fun i _ h => by
    apply Classical.byContradiction; intro hne; exact h (idP_pos.2 hne)) n (Nat.le_refl _)
theorem miss_keep {A C V : Nat → Int} {n : Nat} (h : dmay A C V n = true) : miss (fun j => C (atM V n j)) (fun j => V (atM V n j)) (mv V n) = miss C V n :=
  keep_sumZ (P := idP V) (f := fun i => max 0 (-(C i + V i))) n (fun i hi h0 => by
    have e : V i = 0 := by apply Classical.byContradiction; intro hne; exact h0 (idP_pos.2 hne)
    have := (dmay_at h hi).2.1
    simp only [e]; omega) n (Nat.le_refl _)
theorem sE_keep {fund : Int} {n : Nat} {A C V : Nat → Int} (hA : ∀ i, 0 ≤ A i) (h : sE fund n A C V = 0) : sE fund (mv V n) (fun j => A (atM V n j)) (fun j => C (atM V n j)) (fun j => V (atM V n j)) = 0 := by
  obtain ⟨h1, h2, h3, h4⟩ := sE_ok h
  have := mv_le V n
  unfold sE
  rw [if_neg (by omega), dmay_keep hA h2 _ (Nat.le_refl _), inB_iff.2 h3, sum_keep, h4]; rfl
theorem cut_keep {fund : Int} {n j : Nat} {A C V : Nat → Int} (h : sE fund n A C V = 0) (hj : j < mv V n) : cutN fund (mv V n) (fun j => C (atM V n j)) (fun j => V (atM V n j)) j = cutN fund n C V (atM V n j) := by
  obtain ⟨h1, h2, h3, h4⟩ := sE_ok h
  unfold cutN
  rw [miss_keep h2]
  by_cases hS : 0 < sumN (wts V) n
  · exact prt_keep (P := idP V) (W := wts V) (n := n) (fun i _ h0 => by
      have e : V i = 0 := by apply Classical.byContradiction; intro hne; exact h0 (idP_pos.2 hne)
      unfold wts; rw [e]; rfl) hS hj
  · have h5 := (miss_won h2 n (Nat.le_refl _)).1
    have h6 := (miss_bd h2 n (Nat.le_refl _)).1
    have : (miss C V n - min fund (miss C V n)).toNat = 0 := by omega
    rw [this, prt_zero, prt_zero]
theorem sF_keep {fund : Int} {n : Nat} {A C V : Nat → Int} (hA : ∀ i, 0 ≤ A i) (h : sE fund n A C V = 0) : sF fund (mv V n) (fun j => A (atM V n j)) (fun j => C (atM V n j)) (fun j => V (atM V n j)) = sF fund n A C V := by
  obtain ⟨h1, h2, h3, h4⟩ := sE_ok h
  unfold sF
  rw [if_pos h, if_pos (sE_keep hA h), miss_keep h2]

section
variable {P : Program} {ops : Array Oper} {C : World → Prop} {Q : Act → Prop} {o : Oper} {rest : List Oper} {a : Act}
/-- in a region that draws: a struct is built -/
theorem q_buildS (hw : Region.wanted o (yielded ops a.tmps) = true) (t : TypeId) (parts : Array (Nat × Operand)) (ho : o.op = .build t parts) (B : Array Value) (hf : P.built t (parts.map fun (i, x) => (i, a.eval x)).toList = some B)
    (h : WQ P ops C Q rest (a.put o.dst (.agg B))) : WQ P ops C Q (o :: rest) a :=
  q_val (.agg B) hw (fun w _ => by
    unfold execOp
    simp only [ho, Sem.run_bind, run_build w t _ B hf, Result.andThen_ok, Sem.run_pure]) h
theorem at_qbuildS (T : TypeId) {d : Option Tmp} {ps : Array (Nat × Operand)} {ty : TypeId} {pos : String} {af : Array Edge} {gd : Option (Nat × Bool)}
    (h : WQ P ops C Q (⟨d, .build T ps, ty, pos, af, gd⟩ :: rest) a) : WQ P ops C Q (⟨d, .build T ps, ty, pos, af, gd⟩ :: rest) a := h
end
/-- the rows of those who move -/
def idD (A C V : Nat → Int) (n : Nat) : Nat → Array Value := fun j => dA (A (atM V n j)) (C (atM V n j)) (V (atM V n j))
theorem idD_next {A C V : Nat → Int} {n k : Nat} (h : k < n) (hv : V k ≠ 0) : flat (idD A C V n) (mv V (k + 1)) = flat (idD A C V n) (mv V k) ++ (dA (A k) (C k) (V k)).toList := by
  rw [mv_yes hv]
  show flat (idD A C V n) (mv V k) ++ (dA (A (atM V n (mv V k))) (C (atM V n (mv V k))) (V (atM V n (mv V k)))).toList = _
  rw [atM_at h hv]
set_option maxRecDepth 100000 in
set_option maxHeartbeats 8000000 in
theorem idle13_walk (fund : Int) (a : Option Addr) (n cap : Nat) (A C V : Nat → Int) (W : World) (hf : F64 fund) (hb : ∀ i, (0 ≤ A i ∧ A i ≤ 4294967295) ∧ F64 (C i) ∧ F64 (V i)) (hA : Dues W a n A C V) :
    Calls Try.prog 10 #[.int .i64 fund, .slice a n cap] W fun e W' => e = .returned (.bool true) ∧ Below W.heap.size W W' := by
  have c1 := settle_any fund a n cap A C V W hb hA
  unfold SetC at c1
  have HA := Lib.hid hA
  have hA0 : ∀ i, 0 ≤ A i := fun i => (hb i).1.1
  by_cases hE : sE fund n A C V = 0
  · obtain ⟨hn, hm, hfb, hs0⟩ := sE_ok hE
    have hE2 := sE_keep hA0 hE
    have hF2 := sF_keep hA0 hE
    have c2 := fun (w2 : World) (a8 : Option Addr) (d8 : Nat) (hD : Dues w2 a8 (mv V n) (fun j => A (atM V n j)) (fun j => C (atM V n j)) (fun j => V (atM V n j))) => settle_any fund a8 (mv V n) d8 _ _ _ w2 (fun i => hb (atM V n i)) hD
    unfold SetC at c2
    obtain ⟨f, hf⟩ : ∃ f, f = sF fund n A C V := ⟨_, rfl⟩
    rw [hE2, hF2, ← hf] at c2
    rw [hE, ← hf] at c1
    obtain ⟨cs, hcs⟩ : ∃ cs : Nat → Int, cs = fun i => max (C i + V i) 0 - (cutN fund n C V i : Nat) := ⟨_, rfl⟩
    obtain ⟨ds, hds⟩ : ∃ ds : Nat → Bool, ds = fun i => decide (C i + V i < 0) := ⟨_, rfl⟩
    obtain ⟨us, hus⟩ : ∃ us : Nat → Int, us = fun i => ((cutN fund n C V i : Nat) : Int) := ⟨_, rfl⟩
    have HZ := Lib.hid (show ∀ i, i < n → V i = 0 → cs i = C i ∧ ds i = false ∧ us i = 0 from fun i hi h0 => by
      have k1 := (kept_of hE hi).cb
      have k2 := cut_none (fund := fund) hm hs0 hfb.1 hi (by omega)
      rw [hcs, hds, hus]
      refine ⟨?_, ?_, ?_⟩
      · simp only [k2, h0]; omega
      · simp only [h0]; rw [decide_eq_false (by omega)]
      · simp only [k2]; rfl)
    have HBD := Lib.hid (show ∀ i, i < n → (0 ≤ A i ∧ A i ≤ 4294967295) ∧ F64 (C i) ∧ F64 (cs i) ∧ F64 (us i) from fun i hi => by
      have k := kept_of hE hi
      have k1 := k.cb
      have k2 := k.vb
      have k3 := k.le
      rw [hcs, hus]
      exact ⟨(hb i).1, (hb i).2.1, ⟨by simp only; omega, by simp only; omega⟩, ⟨by simp only; omega, by simp only; omega⟩⟩)
    have HV1 := Lib.hid (fun (w' : World) (v : Value) (s : Nat) (h : SetV fund n A C V s w' v) => show ∃ g, v = .slice (some ⟨g, 0, none⟩) n n ∧ s ≤ g ∧ OW w' g n A cs ds us from by
      rw [hcs, hds, hus]; exact h.1 hE)
    have HV2 := Lib.hid (fun (w' : World) (v : Value) (s : Nat) (h : SetV fund (mv V n) (fun j => A (atM V n j)) (fun j => C (atM V n j)) (fun j => V (atM V n j)) s w' v) => show ∃ g, v = .slice (some ⟨g, 0, none⟩) (mv V n) (mv V n) ∧ s ≤ g ∧ OW w' g (mv V n) (fun j => A (atM V n j)) (fun j => cs (atM V n j)) (fun j => ds (atM V n j)) (fun j => us (atM V n j)) from by
      obtain ⟨g, e1, e2, e3⟩ := h.1 hE2
      refine ⟨g, e1, e2, e3.congr (fun _ _ => rfl) (fun i hi => ?_) (fun i _ => by rw [hds]) (fun i hi => ?_)⟩
      · rw [hcs, cut_keep hE hi]
      · rw [hus, cut_keep hE hi])
    clear hE hs0 hE2 hF2 hfb hm hf hcs hds hus hb hA hA0
    go_enter Try.func10, Try.ntmps10
    go_wp2_with fail
    refine c1.mono ?_
    rintro e w1 ⟨⟨v, rfl, hv⟩, hb1⟩
    obtain ⟨go1, rfl, hgo1, hO1⟩ := HV1.out _ _ _ hv
    have HO1 := Lib.hid hO1
    have HB1 := Lib.hid hb1
    clear hv hO1 hb1 c1 HV1
    go_wp2_with fail
    go_loopg [8, 27] n (fun gh v8 vi wr => ∃ k : Nat, k ≤ n ∧ gh = n - k ∧ vi = .int .i64 k ∧ wr.ownsRow w1.heap.size 39 3 v8 (mv V k) (flat (idD A C V n) (mv V k)) ∧ Below w1.heap.size w1 wr)
    case atStart => exact ⟨0, by omega, by omega, rfl, World.ownsRow_nil _ _ _ _, Below.refl _ _⟩
    case round =>
      obtain ⟨k, hk, rfl, rfl, hown, hbx⟩ := hrel
      have HO := Lib.hid hown
      have HX := Lib.hid hbx
      clear hown hbx
      by_cases hlt : k < n
      · have hki : (k : Int) < n := by omega
        obtain ⟨g, off, B, t, fr, rfl, hg, hs, he, b0, b1, b2⟩ := (HA.out.kept (below_then HB1.out HX.out)).at hlt
        have cg := cellF hg
        have hst : mv V k ≤ 64 := by have := mv_le V k; omega
        by_cases hv0 : V k = 0
        · have HM := Lib.hid (mv_no hv0)
          rw [hv0] at b2
          clear b0 b1 he hg hs
          go_wp2
          go_roundg (n - (k + 1))
          case measure => omega
          case rel => exact ⟨k + 1, by omega, rfl, by go_num, by rw [HM.out]; exact HO.out, HX.out⟩
        · have HM := Lib.hid (mv_yes hv0)
          have HR := Lib.hid (idD_next (A := A) (C := C) hlt hv0)
          obtain ⟨x, hx⟩ : ∃ x, x = A k := ⟨_, rfl⟩
          obtain ⟨c, hc⟩ : ∃ x, x = C k := ⟨_, rfl⟩
          obtain ⟨v, hv⟩ : ∃ x, x = V k := ⟨_, rfl⟩
          rw [← hx, ← hc, ← hv] at he HR
          rw [← hv] at b2 hv0
          clear b0 b1 hx hc hv
          go_wp2_with (first | ((with_reducible refine at_load 39 ?_); refine wpList_load_part rfl 39 _ rfl (g) (off + k * 3) rfl _ (B) _ _ 3 (hg) Try.underlying39 rfl (by kernel_rfl) (hs) (dA x c v) (he) ?_) | ((with_reducible refine at_slice1 34 ?_); obtain ⟨ip, zp, ip1, ip2, ip3, ip4, ip5⟩ := info_due; refine wpList_slice1c rfl 34 39 _ rfl (dA x c v) 3 rfl (dA_size _ _ _) ip zp Try.underlying34 ip1 ip2 ip3 ip5 (by omega) (by omega) ?_; clear ip1 ip2 ip3 ip4 ip5) | ((with_reducible refine at_append 34 ?_); refine wpList_append_row1 rfl _ _ rfl Try.underlying34 info_due (by omega) (dA_size _ _ _) (dA_all _ _ _) w1.heap.size u8 (mv V k) _ rfl HO.out rfl (by omega) HX.out.size ?_; intro v8 w8 ho8 hg8 hq8; replace ho8 := Lib.hid ho8; replace hg8 := Lib.hid hg8; replace hq8 := Lib.hid hq8))
          go_roundg (n - (k + 1))
          case measure => omega
          case rel => exact ⟨k + 1, by omega, rfl, by go_num, by rw [HR.out, HM.out]; exact ho8.out, (below_alloc HX.out _).grown hg8.out (by have := HX.out.size; simp; omega) hq8.out⟩
      · obtain rfl : k = n := by omega
        obtain ⟨a8, d8, rfl, h8, _⟩ := own_rows (fun i => dA_size _ _ _) HO.out
        have hD : Dues wr a8 (mv V k) (fun j => A (atM V k j)) (fun j => C (atM V k j)) (fun j => V (atM V k j)) := fun i hi => by
          obtain ⟨g, off, B, fr, e1, e2, e3, e4⟩ := h8 i hi
          exact ⟨g, off, B, _, fr, e1, e2, e3, e4⟩
        have c2 := c2 wr a8 d8 hD
        clear h8 hD HO
        go_wp2_with fail
        refine c2.mono ?_
        rintro e w2 ⟨⟨v, rfl, hv⟩, hb2⟩
        obtain ⟨go2, rfl, hgo2, hO2⟩ := HV2.out _ _ _ hv
        have HO2 := Lib.hid hO2
        replace HO1 := Lib.hid (HO1.out.kept (below_then HX.out hb2))
        have HB2 := Lib.hid (below_then HB1.out (below_then HX.out hb2))
        clear hv hO2 hb2 c2 HV2 HX HB1
        go_wp2_with fail
        go_loopg [13, 72] k (fun gh v13 vi wy => ∃ j : Nat, j ≤ k ∧ gh = k - j ∧ vi = .int .i64 j ∧ v13 = .int .i64 (mv V j : Nat) ∧ Below w2.heap.size w2 wy)
        case atStart => exact ⟨0, by omega, by omega, rfl, rfl, Below.refl _ _⟩
        case round =>
          obtain ⟨j, hj, rfl, rfl, rfl, hby⟩ := hrel
          have HY := Lib.hid hby
          clear hby
          by_cases hlt : j < k
          · have hki : (j : Int) < k := by omega
            obtain ⟨g, off, B, t, fr, rfl, hg, hs, he, b0, b1, b2⟩ := (HA.out.kept (below_then HB2.out HY.out)).at hlt
            obtain ⟨G1, hG1, hGs1, hGe1⟩ := (HO1.out.kept HY.out).ext hlt
            obtain ⟨z1, z2, z3, z4⟩ := HBD.out j hlt
            have cg := cellF hg
            by_cases hv0 : V j = 0
            · have HM := Lib.hid (mv_no hv0)
              obtain ⟨y1, y2, y3⟩ := HZ.out j hlt hv0
              rw [hv0] at b2
              rw [y1, y2, y3] at hGe1
              have hne := neq_set (A j) (C j) false 0 z1 z2 ⟨by omega, by omega⟩
              obtain ⟨x, hx⟩ : ∃ x, x = A j := ⟨_, rfl⟩
              obtain ⟨c, hc⟩ : ∃ x, x = C j := ⟨_, rfl⟩
              rw [← hx, ← hc] at hne hGe1
              rw [← hx] at b0
              rw [← hc] at b1
              clear hx hc z1 z2 z3 z4 y1 y2 y3 he hs
              go_upto_region 21 with fail
              clear cg
              refine wp_region_below (by kernel_rfl) (by kernel_rfl) ?_
              repeat (first | ((with_reducible apply q_skip); (case hw => rfl); (try simp only [Act.put, List.setIfInBounds_toArray, List.set_cons_zero, List.set_cons_succ])) | ((with_reducible refine at_qload 43 ?_); refine q_load_part (by rfl) 43 _ rfl (go1) (j * 4) rfl _ (G1) _ 4 (hG1) Try.underlying43 rfl (by kernel_rfl) (hGs1) (sA x c false 0) (hGe1) ?_; try simp only [Act.put, List.setIfInBounds_toArray, List.set_cons_zero, List.set_cons_succ]) | ((with_reducible refine at_qbuildS 43 ?_); refine q_buildS (by rfl) 43 _ rfl (sA x c false 0) (by kernel_rfl) ?_; try simp only [Act.put, List.setIfInBounds_toArray, List.set_cons_zero, List.set_cons_succ]) | ((with_reducible apply q_val); (case hw => rfl); (case hv => intro wq hbq; have hcq := cellF (Yticdcdahehodkaa.kept hbq hg); go_simp; try rfl); (try simp only [Act.put, List.setIfInBounds_toArray, List.set_cons_zero, List.set_cons_succ])))
              refine q_nil ?_
              intro w4 hb4
              go_wp2_with fail
              go_roundg (k - (j + 1))
              case measure => omega
              case rel => exact ⟨j + 1, by omega, rfl, by go_num, by rw [HM.out], below_then HY.out hb4⟩
            · have HM := Lib.hid (mv_yes hv0)
              have hml := mv_lt hlt hv0
              obtain ⟨G2, hG2, hGs2, hGe2⟩ := (HO2.out.kept HY.out).ext hml
              rw [atM_at hlt hv0] at hGe2
              have hne := neq_set (A j) (cs j) (ds j) (us j) z1 z3 z4
              generalize sA (A j) (cs j) (ds j) (us j) = X at *
              obtain ⟨m, hm⟩ : ∃ m, m = mv V k := ⟨_, rfl⟩
              obtain ⟨r, hr⟩ : ∃ r, r = mv V j := ⟨_, rfl⟩
              rw [← hm]
              rw [← hm, ← hr] at hml
              rw [← hr] at hGs2 hGe2
              rw [← hr]
              have HMR := Lib.hid (And.intro hm hr)
              have hri : (r : Int) < m := by omega
              have hrm : ¬ (m : Int) ≤ (r : Int) := by omega
              obtain ⟨v, hv⟩ : ∃ x, x = V j := ⟨_, rfl⟩
              rw [← hv] at b2 hv0
              have hm64 : m ≤ 64 := by have := mv_le V k; omega
              clear hm hr hv z1 z2 z3 z4 he hs b0 b1 hg
              go_upto_region 23 with fail
              clear cg
              refine wp_region_below (by kernel_rfl) (by kernel_rfl) ?_
              repeat (first | ((with_reducible apply q_skip); (case hw => rfl); (try simp only [Act.put, List.setIfInBounds_toArray, List.set_cons_zero, List.set_cons_succ])) | ((with_reducible refine at_qload 43 ?_); refine q_load_part (by rfl) 43 _ rfl (go1) (j * 4) rfl _ (G1) _ 4 (hG1) Try.underlying43 rfl (by kernel_rfl) (hGs1) (X) (hGe1) ?_; try simp only [Act.put, List.setIfInBounds_toArray, List.set_cons_zero, List.set_cons_succ]) | ((with_reducible refine at_qload 43 ?_); refine q_load_part (by rfl) 43 _ rfl (go2) (r * 4) rfl _ (G2) _ 4 (hG2) Try.underlying43 rfl (by kernel_rfl) (hGs2) (X) (hGe2) ?_; try simp only [Act.put, List.setIfInBounds_toArray, List.set_cons_zero, List.set_cons_succ]) | ((with_reducible apply q_val); (case hw => rfl); (case hv => intro wq hbq; go_simp; try rfl); (try simp only [Act.put, List.setIfInBounds_toArray, List.set_cons_zero, List.set_cons_succ])))
              refine q_nil ?_
              intro w4 hb4
              go_wp2_with fail
              rw [HMR.out.1]
              go_roundg (k - (j + 1))
              case measure => omega
              case rel => exact ⟨j + 1, by omega, rfl, by go_num, by rw [HM.out, ← HMR.out.2]; go_num, below_then HY.out hb4⟩
          · obtain rfl : j = k := by omega
            go_wp2_with (first | (go_at_call 15; (with_reducible refine (known13 _).mono ?_); rintro e w5 ⟨rfl, hb5⟩))
            go_ret
            exact ⟨rfl, below_then HB2.out (below_then HY.out hb5)⟩
  · have hez : ¬ sE fund n A C V = 0 := hE
    have hsf : sF fund n A C V = 0 := by unfold sF; rw [if_neg hE]
    rw [hsf] at c1
    have HE := Lib.hid hE
    generalize sE fund n A C V = te at c1 hez
    clear hE hsf hb hA hA0 hf
    go_enter Try.func10, Try.ntmps10
    go_wp2_with fail
    refine c1.mono ?_
    rintro e w1 ⟨⟨v, rfl, hv⟩, hb1⟩
    obtain rfl := hv.2 HE.out
    clear hv c1
    go_wp2_with (first | (go_at_call 15; (with_reducible refine (known13 _).mono ?_); rintro e w5 ⟨rfl, hb5⟩))
    go_ret
    exact ⟨rfl, below_then hb1 hb5⟩
theorem idle13_w (fund : Int) (a : Option Addr) (n cap : Nat) (A C V : Nat → Int) (W : World) (hf : F64 fund) (hb : ∀ i, (0 ≤ A i ∧ A i ≤ 4294967295) ∧ F64 (C i) ∧ F64 (V i)) (hA : Dues W a n A C V) (_ : n ≤ cap) (_ : cap ≤ 9223372036854775807) (_ : a = none → n = 0 ∧ cap = 0) :
    Calls Try.prog 10 #[.int .i64 fund, .slice a n cap] W fun e W' => e = .returned (.bool true) ∧ Below W.heap.size W W' := idle13_walk fund a n cap A C V W hf hb hA
end Go.Proofs.Yticdcdahehodkaa
