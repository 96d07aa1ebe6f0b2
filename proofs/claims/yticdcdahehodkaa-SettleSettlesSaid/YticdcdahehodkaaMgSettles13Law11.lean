/- Texts that Settles13Law stands on, one behind the other, part 11. Conditions: each theorem names its own. -/
import Derived.Test.YticdcdahehodkaaMgSettles13Law10
import Derived.OwnWalk
/-! settle's Settle: what becomes of any dues and any fund, or why nothing does. Condition: the numbers fit their kinds. -/
namespace Go.Proofs.Yticdcdahehodkaa
set_option linter.unusedVariables false
set_option linter.unusedSimpArgs false
open Go.RowKit

theorem OW.congr {w : World} {g n : Nat} {a a' c c' : Nat → Int} {d d' : Nat → Bool} {u u' : Nat → Int} (h : OW w g n a c d u) (ea : ∀ i, i < n → a' i = a i) (ec : ∀ i, i < n → c' i = c i) (ed : ∀ i, i < n → d' i = d i) (eu : ∀ i, i < n → u' i = u i) : OW w g n a' c' d' u' := by
  obtain ⟨G, h1, h2, h3⟩ := h.row
  exact ⟨G, h1, h2, fun i hi => by rw [ea i hi, ec i hi, ed i hi, eu i hi]; exact h3 i hi⟩
theorem OW.setrow {w w' : World} {g n i : Nat} {a c : Nat → Int} {d : Nat → Bool} {u : Nat → Int} (h : OW w g n a c d u) (hi : i < n) (x y : Int) (z : Bool) (v : Int) (hw : ∀ G, w.heap[g]? = some (.cells G 43 (0, 0)) → w'.heap[g]? = some (.cells (splice G (i * 4) (sA x y z v)) 43 (0, 0))) :
    OW w' g n (put a i x) (put c i y) (put d i z) (put u i v) := by
  obtain ⟨G, h1, h2, h3⟩ := h.row
  have hle : i * 4 + (sA x y z v).size ≤ G.size := by rw [sA_size]; omega
  have hsz : (sA x y z v).size = 4 := rfl
  refine ⟨_, hw G h1, by rw [splice_size hle, h2], fun k hk => ?_⟩
  rw [splice_get hle, splice_get hle, splice_get hle, splice_get hle, hsz]
  by_cases e : k = i
  · subst e
    rw [if_pos (by omega), if_pos (by omega), if_pos (by omega), if_pos (by omega), put_at, put_at, put_at, put_at]
    rw [show k * 4 - k * 4 = 0 by omega, show k * 4 + 1 - k * 4 = 1 by omega, show k * 4 + 2 - k * 4 = 2 by omega, show k * 4 + 3 - k * 4 = 3 by omega]
    exact ⟨rfl, rfl, rfl, rfl⟩
  · rw [if_neg (by omega), if_neg (by omega), if_neg (by omega), if_neg (by omega), put_ne _ _ e, put_ne _ _ e, put_ne _ _ e, put_ne _ _ e]
    exact h3 k hk
theorem mk_set (n : Nat) (hn : n ≤ 100000) : ∃ R : Array Value, (∀ w g, w.heap[g]? = some (.cells R 43 (0, 0)) → OW w g n (fun _ => 0) (fun _ => 0) (fun _ => false) (fun _ => 0)) ∧
    ∀ w, (Instr.makeSlice 35 (.int .i64 (n : Int)) (.int .i64 (n : Int))).run Try.prog w = .ok (.slice (some ⟨w.heap.size, 0, none⟩) n n) (w.alloc (.cells R 43)) := by
  have hi : (Try.prog.info? 43).map (fun i => (i.zero, i.size, decide (i.bytes ≤ 1000))) = some (some (.agg (sA 0 0 false 0)), 4, true) := by kernel_rfl
  cases h : Try.prog.info? 43 with
  | none => simp [h] at hi
  | some i =>
    simp [h] at hi
    obtain ⟨h1, h2, h3⟩ := hi
    have hm := Nat.mul_le_mul h3 hn
    refine ⟨madeCells (Value.agg (sA 0 0 false 0)).cells (n * 4), fun w g hg => ⟨_, hg, size_madeCells _ _, fun k hk => ?_⟩, fun w => ?_⟩
    · have hc : ∀ j, j < 4 → (madeCells (Value.agg (sA 0 0 false 0)).cells (n * 4))[k * 4 + j]? = (sA 0 0 false 0)[j]? := fun j hj => by
        unfold madeCells
        rw [Array.getElem?_map, show (Array.range (n * 4))[k * 4 + j]? = some (k * 4 + j) by rw [Array.getElem?_range, if_pos (by omega)]]
        have e : (k * 4 + j) % (Value.agg (sA 0 0 false 0)).cells.size = j := by
          show (k * 4 + j) % 4 = j
          omega
        simp only [Option.map_some, e]
        have : j = 0 ∨ j = 1 ∨ j = 2 ∨ j = 3 := by omega
        rcases this with rfl | rfl | rfl | rfl <;> rfl
      exact ⟨hc 0 (by omega), hc 1 (by omega), hc 2 (by omega), hc 3 (by omega)⟩
    · have := run_make (P := Try.prog) w 35 43 i _ Try.underlying35 h h1 .i64 .i64 n n (by omega) (by omega) (by
        have : ((i.bytes * n : Nat) : Int) ≤ 281474976710656 := by omega
        rwa [Int.natCast_mul] at this) (by omega)
      simpa [h2] using this

/-- the error -/
def sE (fund : Int) (n : Nat) (A C V : Nat → Int) : Int :=
  if 64 < n then 3 else if (dmay A C V n && inB fund 0 1000000000000000) = false then 2 else if sumZ V n ≠ 0 then 130 else 0
/-- what is missing of the first k -/
def miss (C V : Nat → Int) : Nat → Int := sumZ (fun i => max 0 (-(C i + V i)))
/-- the cut of i -/
def cutN (fund : Int) (n : Nat) (C V : Nat → Int) (i : Nat) : Nat := prt (wts V) n (miss C V n - min fund (miss C V n)).toNat i
def sF (fund : Int) (n : Nat) (A C V : Nat → Int) : Int := if sE fund n A C V = 0 then fund - min fund (miss C V n) else 0
def SetV (fund : Int) (n : Nat) (A C V : Nat → Int) (s : Nat) (w' : World) (v : Value) : Prop :=
  (sE fund n A C V = 0 → ∃ g, v = .slice (some ⟨g, 0, none⟩) n n ∧ s ≤ g ∧ OW w' g n A (fun i => max (C i + V i) 0 - (cutN fund n C V i : Nat)) (fun i => decide (C i + V i < 0)) (fun i => (cutN fund n C V i : Nat))) ∧ (sE fund n A C V ≠ 0 → v = .slice none 0 0)
def SetC (fund : Int) (a : Option Addr) (n cap : Nat) (A C V : Nat → Int) (w : World) : Prop :=
  Calls Try.prog 16 #[.int .i64 fund, .slice a n cap] w fun e w' => (∃ v, e = .returned (.tuple #[v, .int .i64 (sF fund n A C V), .int .i64 (sE fund n A C V)]) ∧ SetV fund n A C V w.heap.size w' v) ∧ Below w.heap.size w w'

set_option maxRecDepth 100000 in
set_option maxHeartbeats 4000000 in
theorem settle_bad (fund : Int) (a : Option Addr) (n cap : Nat) (A C V : Nat → Int) (w : World) (hb : ∀ i, (0 ≤ A i ∧ A i ≤ 4294967295) ∧ F64 (C i) ∧ F64 (V i)) (hA : Dues w a n A C V) (h : 64 < n ∨ (dmay A C V n && inB fund 0 1000000000000000) = false) : SetC fund a n cap A C V w := by
  by_cases hn : 64 < n
  · have he : sE fund n A C V = 3 := if_pos hn
    have hf : sF fund n A C V = 0 := by unfold sF; rw [he]; rfl
    unfold SetC
    rw [he, hf]
    have HE := Lib.hid he
    have hni : (64 : Int) < n := by omega
    clear he hf hA hb h
    go_enter Try.func16, Try.ntmps16
    go_wp2
    go_ret3
    exact ⟨⟨_, rfl, fun h => by rw [HE.out] at h; omega, fun _ => rfl⟩, Below.refl _ _⟩
  · have h2 := h.resolve_left hn
    have he : sE fund n A C V = 2 := by unfold sE; rw [if_neg hn, if_pos h2]
    have hf : sF fund n A C V = 0 := by unfold sF; rw [he]; rfl
    have cm := smay_any fund a n cap A C V w hb hA (by omega)
    rw [h2] at cm
    unfold SetC
    rw [he, hf]
    have HE := Lib.hid he
    have hni : ¬ (64 : Int) < n := by omega
    clear he hf hA hb h h2
    go_enter Try.func16, Try.ntmps16
    go_wp2_with (first | (go_at_call 25; (with_reducible refine (cm).mono ?_); rintro e w1 ⟨rfl, hb1⟩))
    go_ret3
    exact ⟨⟨_, rfl, fun h => by rw [HE.out] at h; omega, fun _ => rfl⟩, hb1⟩
end Go.Proofs.Yticdcdahehodkaa
/-! settle's Settle where the dues may be settled. Condition: the numbers fit their kinds. -/
namespace Go.Proofs.Yticdcdahehodkaa
set_option linter.unusedVariables false
set_option linter.unusedSimpArgs false
open Go.RowKit

theorem miss_succ (C V : Nat → Int) (k : Nat) : miss C V (k + 1) = miss C V k + max 0 (-(C k + V k)) := rfl
theorem miss_bd {A C V : Nat → Int} {n : Nat} (h : dmay A C V n = true) : ∀ k, k ≤ n → 0 ≤ miss C V k ∧ miss C V k ≤ 100000000000000000 * k
  | 0, _ => by show (0 : Int) ≤ 0 ∧ (0 : Int) ≤ 100000000000000000 * ((0 : Nat) : Int); omega
  | k + 1, hk => by
    have h1 := miss_bd h k (by omega)
    obtain ⟨_, h2, h3⟩ := dmay_at h (show k < n by omega)
    rw [miss_succ]; omega
theorem own_grow {w w' : World} {go : Nat} (h1 : Below go w w') (h2 : w'.heap.size = w.heap.size) (h3 : ∀ k, k ≠ go → w'.heap[k]? = w.heap[k]?) : w.grownBy w' (some go) :=
  ⟨h1.os, h1.tape, h1.output, by omega, fun k _ hk => h3 k (fun e => hk (by rw [e]))⟩
/-- what the first loop has done behind k dues -/
structure SW (W wr : World) (b go n k : Nat) (A C V : Nat → Int) (v7 v8 v9 : Value) : Prop where
  below : Below W.heap.size W wr
  ls : LS wr b v7 v8 v9 k (wn V k) (wn V k) (zl V k) (zl (fun j => V (atF V n j)) (wn V k)) (zl (fun j => (atF V n j : Nat)) (wn V k))
  ow : OW wr go n (fun i => if i < k then A i else 0) (fun i => if i < k then max (C i + V i) 0 else 0) (fun i => if i < k then decide (C i + V i < 0) else false) (fun _ => 0)
theorem zl_one (f : Nat → Int) (k : Nat) (v : Int) (h : f k = v) : zl f k ++ (#[Value.int .i64 v] : Array Value).toList = zl f (k + 1) := by
  rw [← h]; exact zl_snoc f k

theorem own_cell {w : World} {b n i : Nat} {e : TypeId} {v : Value} {Z : Nat → Int} (h : w.ownsRow b e 1 v n (zl Z n)) (hi : i < n) : ∃ g cap A, v = .slice (some ⟨g, 0, none⟩) n cap ∧ b ≤ g ∧ w.heap[g]? = some (.cells A e (0, 0)) ∧ A[i]? = some (.int .i64 (Z i)) := by
  obtain ⟨_, ⟨rfl, rfl⟩ | ⟨g, cap, cur, rfl, hb, hg, hn, _, hc, ht⟩⟩ := h
  · omega
  · exact ⟨g, cap, cur, rfl, hb, hg, by rw [← zl_at Z hi, ← ht, List.getElem?_take, if_pos (by omega), Array.getElem?_toList]⟩
theorem own_len {w : World} {b n c : Nat} {e : TypeId} {v : Value} {L : List Value} (h : w.ownsRow b e c v n L) : ∃ a cap, v = .slice a n cap := by
  obtain ⟨_, ⟨rfl, rfl⟩ | ⟨g, cap, cur, rfl, _⟩⟩ := h
  · exact ⟨none, 0, rfl⟩
  · exact ⟨_, cap, rfl⟩
theorem sumV_bd {A C V : Nat → Int} {n : Nat} (h : dmay A C V n = true) : ∀ k, k ≤ n → -100000000000000000 * (k : Int) ≤ sumZ V k ∧ sumZ V k ≤ 100000000000000000 * k
  | 0, _ => by show -100000000000000000 * ((0 : Nat) : Int) ≤ 0 ∧ (0 : Int) ≤ 100000000000000000 * ((0 : Nat) : Int); omega
  | k + 1, hk => by
    have h1 := sumV_bd h k (by omega)
    obtain ⟨_, _, h3⟩ := dmay_at h (show k < n by omega)
    show -100000000000000000 * ((k + 1 : Nat) : Int) ≤ sumZ V k + V k ∧ sumZ V k + V k ≤ 100000000000000000 * ((k + 1 : Nat) : Int)
    omega
/-- what is missing is within what was won, if all add up to nothing -/
theorem miss_won {A C V : Nat → Int} {n : Nat} (h : dmay A C V n = true) : ∀ k, k ≤ n → miss C V k + sumZ V k ≤ (sumN (wts V) k : Nat) ∧ ((sumN (wts V) k : Nat) : Int) ≤ 100000000000000000 * k
  | 0, _ => by show (0 : Int) + 0 ≤ ((0 : Nat) : Int) ∧ ((0 : Nat) : Int) ≤ 100000000000000000 * ((0 : Nat) : Int); omega
  | k + 1, hk => by
    have h1 := miss_won h k (by omega)
    obtain ⟨_, h2, h3⟩ := dmay_at h (show k < n by omega)
    rw [miss_succ]
    show miss C V k + max 0 (-(C k + V k)) + (sumZ V k + V k) ≤ ((sumN (wts V) k + wts V k : Nat) : Int) ∧ ((sumN (wts V) k + wts V k : Nat) : Int) ≤ 100000000000000000 * ((k + 1 : Nat) : Int)
    unfold wts; unfold wts at h1; omega
/-- those who have won -/
def wZ (V : Nat → Int) (n : Nat) : Nat → Int := fun j => V (atF V n j)
theorem wZ_sum {V : Nat → Int} {n : Nat} : sumN (wts (wZ V n)) (wn V n) = sumN (wts V) n := won_sum (V := V) (f := wts V) n (fun i _ h => by unfold wts; omega) n (Nat.le_refl _)
theorem wZ_split {A C V : Nat → Int} {n : Nat} {T : Int} (h : dmay A C V n = true) (hn : n ≤ 64) (hs : sumZ V n = 0) (hT : 0 ≤ T) (hT2 : T ≤ miss C V n) : splE (wZ V n) (wn V n) T = 0 ∧ ∀ j, j < wn V n → splP (wZ V n) (wn V n) T j = prt (wts V) n T.toNat (atF V n j) := by
  have hw := wn_le V n
  have hm := (miss_won h n (Nat.le_refl _)).1
  have hm2 := (miss_won h n (Nat.le_refl _)).2
  have hp : ∀ j, j < wn V n → 0 ≤ wZ V n j := fun j hj => by have := (atF_lt n j hj).2.1; unfold wZ; omega
  have he := wts_sum (Z := wZ V n) (wn V n) hp
  rw [wZ_sum] at he
  constructor
  · unfold splE
    rw [if_neg (by omega), if_neg (fun h3 => ?_), (fit_yes (v := sumZ (wZ V n) (wn V n)) (by omega)).1, if_neg (by simp)]
    · by_cases h0 : T = 0
      · rw [if_pos h0]
      · rw [if_neg h0, if_neg (by omega)]
    · rcases h3 with h3 | ⟨i, hi, h3⟩
      · omega
      · have := hp i hi; omega
  · intro j hj
    unfold splP
    by_cases hS : 0 < sumN (wts V) n
    · exact prt_won hS hj
    · have : T.toNat = 0 := by omega
      rw [this, prt_zero, prt_zero]
/-- who has been cut behind the first j of those who have won -/
def cutJ (V : Nat → Int) (f g : Nat → Int) (j : Nat) : Nat → Int := fun i => if 0 < V i ∧ wn V i < j then g i else f i
theorem cutJ_zero (V : Nat → Int) (f g : Nat → Int) : cutJ V f g 0 = f := by
  funext i; unfold cutJ; rw [if_neg (by omega)]
theorem wn_inj {V : Nat → Int} {i k : Nat} (hi : 0 < V i) (hk : 0 < V k) (h : wn V i = wn V k) : i = k :=
  tm_inj (P := wts V) (by unfold wts; omega) (by unfold wts; omega) h
theorem cutJ_next {V : Nat → Int} {f g : Nat → Int} {i j : Nat} (hi : 0 < V i) (hj : wn V i = j) : put (cutJ V f g j) i (g i) = cutJ V f g (j + 1) := by
  funext x
  by_cases e : x = i
  · subst e; rw [put_at]; unfold cutJ; rw [if_pos ⟨hi, by omega⟩]
  · rw [put_ne _ _ e]
    unfold cutJ
    by_cases h : 0 < V x ∧ wn V x < j
    · rw [if_pos h, if_pos ⟨h.1, by omega⟩]
    · rw [if_neg h, if_neg (fun h2 => h ⟨h2.1, by
        have : wn V x ≠ j := fun h3 => e (wn_inj h2.1 hi (by omega))
        omega⟩)]
theorem cutJ_at {V : Nat → Int} {f g : Nat → Int} {i j : Nat} (hj : wn V i = j) : cutJ V f g j i = f i := by unfold cutJ; rw [if_neg (by omega)]
theorem cutJ_all {V : Nat → Int} {f g : Nat → Int} {n i : Nat} (hi : i < n) (h0 : ¬ 0 < V i → f i = g i) : cutJ V f g (wn V n) i = g i := by
  unfold cutJ
  by_cases h : 0 < V i
  · have := tm_lt (P := wts V) hi (by unfold wts; omega)
    rw [if_pos ⟨h, this⟩]
  · rw [if_neg (fun h2 => h h2.1), h0 h]
theorem cut_none {A C V : Nat → Int} {n i : Nat} {fund : Int} (h : dmay A C V n = true) (hs : sumZ V n = 0) (hf : 0 ≤ fund) (hi : i < n) (h0 : ¬ 0 < V i) : cutN fund n C V i = 0 := by
  unfold cutN
  by_cases hS : 0 < sumN (wts V) n
  · exact prt_none hS hi (by unfold wts; omega)
  · have h1 := (miss_won h n (Nat.le_refl _)).1
    have h2 := (miss_bd h n (Nat.le_refl _)).1
    have : (miss C V n - min fund (miss C V n)).toNat = 0 := by omega
    rw [this, prt_zero]
/-- nobody is cut more than they have won -/
theorem cut_le {A C V : Nat → Int} {n i : Nat} {fund : Int} (h : dmay A C V n = true) (hs : sumZ V n = 0) (hf : 0 ≤ fund) (hi : i < n) : (cutN fund n C V i : Int) ≤ max (V i) 0 := by
  by_cases h0 : 0 < V i
  · by_cases hS : 0 < sumN (wts V) n
    · have h1 := (miss_won h n (Nat.le_refl _)).1
      have h2 := (miss_bd h n (Nat.le_refl _)).1
      have := prt_within (T := (miss C V n - min fund (miss C V n)).toNat) hS hi (by omega)
      unfold cutN; unfold wts at this ⊢; omega
    · have := sumN_one (wts V) hi
      unfold wts at this hS; omega
  · rw [cut_none h hs hf hi h0]; omega
theorem put_put {α : Type} (f : Nat → α) (i : Nat) (x y : α) : put (put f i x) i y = put f i y := by
  funext k; unfold put; split <;> rfl
theorem ow_next {w : World} {go n k : Nat} {A C V : Nat → Int} {x s : Int} {d : Bool} (h : OW w go n (put (fun i => if i < k then A i else 0) k x) (put (fun i => if i < k then max (C i + V i) 0 else 0) k s) (put (fun i => if i < k then decide (C i + V i < 0) else false) k d) (put (fun _ => 0) k 0))
    (hx : x = A k) (hs : s = max (C k + V k) 0) (hd : d = decide (C k + V k < 0)) : OW w go n (fun i => if i < k + 1 then A i else 0) (fun i => if i < k + 1 then max (C i + V i) 0 else 0) (fun i => if i < k + 1 then decide (C i + V i < 0) else false) (fun _ => 0) := by
  refine h.congr (fun i _ => ?_) (fun i _ => ?_) (fun i _ => ?_) (fun i _ => ?_)
  · by_cases e : i = k
    · subst e; rw [if_pos (by omega), put_at, hx]
    · rw [put_ne _ _ e]; by_cases h2 : i < k
      · rw [if_pos h2, if_pos (by omega)]
      · rw [if_neg h2, if_neg (by omega)]
  · by_cases e : i = k
    · subst e; rw [if_pos (by omega), put_at, hs]
    · rw [put_ne _ _ e]; by_cases h2 : i < k
      · rw [if_pos h2, if_pos (by omega)]
      · rw [if_neg h2, if_neg (by omega)]
  · by_cases e : i = k
    · subst e; rw [if_pos (by omega), put_at, hd]
    · rw [put_ne _ _ e]; by_cases h2 : i < k
      · rw [if_pos h2, if_pos (by omega)]
      · rw [if_neg h2, if_neg (by omega)]
  · by_cases e : i = k
    · subst e; rw [put_at]
    · rw [put_ne _ _ e]

set_option maxRecDepth 100000 in
set_option maxHeartbeats 16000000 in
theorem settle_ok (fund : Int) (a : Option Addr) (n cap : Nat) (A C V : Nat → Int) (w : World) (hb : ∀ i, (0 ≤ A i ∧ A i ≤ 4294967295) ∧ F64 (C i) ∧ F64 (V i)) (hA : Dues w a n A C V) (hn : n ≤ 64) (hm : dmay A C V n = true) (hf : 0 ≤ fund ∧ fund ≤ 1000000000000000) : SetC fund a n cap A C V w := by
  have hni : ¬ (64 : Int) < n := by omega
  have cm := smay_any fund a n cap A C V w hb hA (by omega)
  have hmf : (dmay A C V n && inB fund 0 1000000000000000) = true := by rw [hm, inB_iff.2 hf]; rfl
  rw [hmf] at cm
  have hsE : sE fund n A C V = if sumZ V n ≠ 0 then 130 else 0 := by unfold sE; rw [if_neg (by omega), hmf, if_neg (by simp)]
  obtain ⟨RS, hRS, hms⟩ := mk_set n (by omega)
  have HRS := Lib.hid hRS
  have HA := Lib.hid hA
  have HM := Lib.hid hm
  have HSE := Lib.hid hsE
  have HFB := Lib.hid hb
  unfold SetC
  obtain ⟨se, hse⟩ : ∃ se, se = sE fund n A C V := ⟨_, rfl⟩
  obtain ⟨sf, hsf⟩ : ∃ sf, sf = sF fund n A C V := ⟨_, rfl⟩
  rw [← hse, ← hsf]
  have HSEE := Lib.hid hse
  have HSFF := Lib.hid hsf
  clear hA hm hmf hsE hRS hb hse hsf
  go_enter Try.func16, Try.ntmps16
  go_wp2_with (first | (go_at_call 25; (with_reducible refine (cm).mono ?_); rintro e w1 ⟨rfl, hb1⟩; replace hb1 := Lib.hid hb1))
  obtain ⟨go, hgo⟩ : ∃ go, go = w1.heap.size := ⟨_, rfl⟩
  obtain ⟨wb, hwb⟩ : ∃ wb, wb = w1.alloc (.cells RS 43) := ⟨_, rfl⟩
  rw [← hgo, ← hwb]
  have HS0 := Lib.hid (show SW w wb wb.heap.size go n 0 A C V (.slice none 0 0) (.slice none 0 0) (.slice none 0 0) from by
    refine ⟨by rw [hwb]; exact below_alloc hb1.out _, ⟨World.ownsRow_nil _ _ _ _, World.ownsRow_nil _ _ _ _, World.ownsRow_nil _ _ _ _, (fun q h => by cases h), (fun q h => by cases h), (fun q h => by cases h)⟩, ?_⟩
    refine (HRS.out wb go (by rw [hwb, hgo]; exact heap_alloc_new _ _)).congr (fun i _ => by rw [if_neg (by omega)]) (fun i _ => by rw [if_neg (by omega)]) (fun i _ => by rw [if_neg (by omega)]) (fun i _ => rfl))
  obtain ⟨b, hbs⟩ : ∃ b, b = wb.heap.size := ⟨_, rfl⟩
  have hgb : go < b := by rw [hbs, hwb, hgo]; simp
  have hwgo : w.heap.size ≤ go := by rw [hgo]; exact hb1.out.size
  rw [← hbs] at HS0
  have HBS := Lib.hid hbs
  clear hwb hgo cm hms hbs
  go_loopg [7, 8, 9, 10, 33] n (fun gh v7 v8 v9 v10 vi wr => ∃ k : Nat, k ≤ n ∧ gh = n - k ∧ vi = .int .i64 k ∧ v10 = .int .i64 (miss C V k) ∧ SW w wr b go n k A C V v7 v8 v9 ∧ b ≤ wr.heap.size)
  case atStart => exact ⟨0, by omega, by omega, rfl, rfl, HS0.out, by rw [HBS.out]; exact Nat.le_refl _⟩
  case round =>
    clear HS0
    obtain ⟨k, hk, rfl, rfl, rfl, hS, hbz⟩ := hrel
    have HS := Lib.hid hS
    clear hS
    by_cases hlt : k < n
    · obtain ⟨g, off, B, t, fr, rfl, hg, hs, he, c0, c1, c2⟩ := (HA.out.kept HS.out.below).at hlt
      obtain ⟨_, hcb, hvb⟩ := dmay_at HM.out hlt
      have hki : (k : Int) < n := by omega
      have hmb := miss_bd HM.out k hk
      have HMN := Lib.hid (miss_succ C V k)
      obtain ⟨m0, hm0⟩ : ∃ m0, m0 = miss C V k := ⟨_, rfl⟩
      rw [← hm0] at hmb HMN ⊢
      have HZ7 := Lib.hid (fun v hv => zl_one V k v hv)
      obtain ⟨x, hx⟩ : ∃ x, x = A k := ⟨_, rfl⟩
      obtain ⟨c, hc⟩ : ∃ x, x = C k := ⟨_, rfl⟩
      obtain ⟨v, hv⟩ : ∃ x, x = V k := ⟨_, rfl⟩
      rw [← hx, ← hc, ← hv] at he
      rw [← hc] at hcb HMN
      rw [← hv] at hvb HMN
      have HX := Lib.hid (And.intro hx (And.intro hc hv))
      have e0 := dA_0 x c v
      have e1 := dA_1 x c v
      have e2 := dA_2 x c v
      have wcv : IntKind.i64.wrap (c + v) = c + v := by rw [IntKind.wrap_i64]; omega
      have HOLT := Lib.hid HS.out.ow.lt
      have HL1 := Lib.hid (HS.out.ls)
      clear c0 c1 c2 hm0 hx hc hv
      go_upto_region 14 with (first | ((with_reducible refine at_load 39 ?_); refine wpList_load_part rfl 39 _ rfl (g) (off + k * 3) rfl _ (B) _ _ 3 (hg) Try.underlying39 rfl (by kernel_rfl) (hs) (dA x c v) (he) ?_) | ((with_reducible refine at_alloc 39 ?_); refine wpList_alloc_named rfl 39 rfl (dA 0 0 0) (by kernel_rfl) ?_) | ((with_reducible refine at_store 39 ?_); refine wpList_store_new rfl 39 _ _ rfl (dA x c v) _ _ _ rfl (by simp) rfl (by rw [dA_size _ _ _]; kernel_rfl) (by rw [dA_size _ _ _]; rfl) (dA_all _ _ _) ?_) | ((with_reducible refine at_append 48 ?_); refine stop_at ?_))
      refine ⟨?_⟩
      refine wpList_append_row1_at (w := wr.alloc (Obj.cells (dA x c v) 39)) (X := #[.int .i64 v]) (c := 1) rfl _ _ rfl Try.underlying48 info_i64r (by omega) rfl (by simp [Value.oneCell']) b u7 k _ rfl (HL1.out.a7.alloc _) (wr.heap.size + 1) (by simp) rfl (by omega) (by simp; omega) ?_
      intro v7 w2 ho2 hg2 hq2 hat2
      have HL2 := Lib.hid ((HL1.out.kept (below_new _ _)).app7 ho2 hg2 hat2)
      have HB2 := Lib.hid ((below_alloc (below_alloc HS.out.below (Obj.cells (dA x c v) 39)) (Obj.cells #[.int .i64 v] 2)).grown hg2 (by have := HS.out.below.size; simp; omega) (fun q hq => by have := hq2 q hq; omega))
      have hz2 : b ≤ w2.heap.size := by have := hg2.size; simp at this; omega
      have HO2 := Lib.hid (((HS.out.ow.kept (below_new wr (Obj.cells (dA x c v) 39))).kept (below_new _ (Obj.cells #[.int .i64 v] 2))).grown hg2 (fun e => by have := hq2 go e.symm; omega))
      have hd2 : w2.heap[wr.heap.size]? = some (.cells (dA x c v) 39 (0, 0)) := by
        rw [hg2.block wr.heap.size (by simp; omega) (fun e => by have := (HL1.out.a7.lt _ e.symm).2; omega)]
        exact (by repeat (first | exact heap_new (by simp; done) | refine heap_up ?_))
      have HD2 := Lib.hid hd2
      have cD2 := cellF hd2
      clear ho2 hg2 hq2 hat2 hd2 hg hs he
      go_upto_region 14 with (first | ((with_reducible refine at_build 43 ?_); refine wpList_build_named rfl 43 _ rfl (sA x (c + v) false 0) (by kernel_rfl) ?_) | ((with_reducible refine at_store 43 ?_); refine stop_at ?_))
      refine ⟨?_⟩
      obtain ⟨G, hG, hGs, _⟩ := HO2.out.row
      refine wpList_store_part rfl 43 _ _ rfl go (k * 4) (sA x (c + v) false 0) rfl rfl _ G hG (by kernel_rfl) (by rw [sA_size]; omega) (sA_all _ _ _ _) ?_
      intro w3 hg3 hz3 ho3 hb3
      have hgr3 := own_grow (hb3 go (Nat.le_refl _)) hz3 ho3
      have HL3 := Lib.hid (HL2.out.put hgr3 hgb)
      have HO3 := Lib.hid (HO2.out.setrow hlt x (c + v) false 0 (fun G' h' => by rw [hG] at h'; injection h' with h'; injection h' with h'; subst h'; exact hg3))
      have HB3 := Lib.hid (HB2.out.trans (hb3 _ hwgo))
      have hd3 : w3.heap[wr.heap.size]? = some (.cells (dA x c v) 39 (0, 0)) := by rw [ho3 _ (by omega)]; exact HD2.out
      have HD3 := Lib.hid hd3
      have hz3' : b ≤ w3.heap.size := by omega
      obtain ⟨_, q1, q2, _, q4⟩ := HO3.out.cells hlt
      rw [put_at] at q1 q2
      have f1 := q4 (k * 4 + 1)
      have f2 := q4 (k * 4 + 2)
      have HF := Lib.hid q4
      clear hG hGs hg3 hz3 ho3 hb3 hgr3 cD2 q4 HO2 HL2 HB2 HD2 hz2
      have hki : (k : Int) < n := by omega
      by_cases hs0 : c + v < 0
      · have hv0 : ¬ 0 < v := by omega
        have wms : IntKind.i64.wrap (m0 - (c + v)) = m0 - (c + v) := by rw [IntKind.wrap_i64]; omega
        have HO4 := Lib.hid (HO3.out.setc hlt 0)
        have q5 := (HO4.out.cells hlt).2.2.1
        rw [put_at] at q5
        have HO5 := Lib.hid (HO4.out.setd hlt true)
        have c5 : ((w3.setCell ⟨go, k * 4 + 1, none⟩ (.int .i64 0)).setCell ⟨go, k * 4 + 2, none⟩ (.bool true)).cell? ⟨wr.heap.size, 2, none⟩ = some (.int .i64 v) := by
          rw [cellF (heap_set_other (heap_set_other hd3 (by omega)) (by omega))]; exact dA_2 x c v
        have hg5 := (set_grown w3 go (k * 4 + 1) (.int .i64 0)).trans (set_grown _ go (k * 4 + 2) (.bool true))
        have HL5 := Lib.hid (HL3.out.put hg5 hgb)
        have HB5 := Lib.hid (below_setS (i := k * 4 + 2) (v := .bool true) (below_setS (i := k * 4 + 1) (v := .int .i64 0) HB3.out hwgo) hwgo)
        have hz5 : b ≤ ((w3.setCell ⟨go, k * 4 + 1, none⟩ (.int .i64 0)).setCell ⟨go, k * 4 + 2, none⟩ (.bool true)).heap.size := Nat.le_trans hz3' hg5.size
        clear hd3 hg5
        go_wp2_with fail
        go_roundg (n - (k + 1))
        case measure => omega
        case rel =>
          obtain ⟨ex, ec, ev⟩ := HX.out
          have ew : wn V (k + 1) = wn V k := by rw [wn_succ, if_neg (by omega)]; rfl
          refine ⟨k + 1, by omega, rfl, by go_num, by rw [HMN.out]; congr 1; omega, ⟨HB5.out, ?_, ow_next (by have := HO5.out; rw [put_put, put_put] at this; exact this) ex (by omega) (by rw [decide_eq_true (by omega)])⟩, hz5⟩
          rw [ew, ← HZ7.out v ev.symm]; exact HL5.out
      · by_cases hv0 : 0 < v
        · have c3 : w3.cell? ⟨wr.heap.size, 2, none⟩ = some (.int .i64 v) := by rw [cellF hd3]; exact dA_2 x c v
          have ew : wn V (k + 1) = wn V k + 1 := by rw [wn_succ, if_pos (by rw [← HX.out.2.2]; exact hv0)]
          have EW := Lib.hid ew
          have HZ8 := Lib.hid (zl_one (fun j => V (atF V n j)) (wn V k) v (by rw [atF_at n k hlt (by rw [← HX.out.2.2]; exact hv0)]; exact HX.out.2.2.symm))
          have HZ9 := Lib.hid (zl_one (fun j => ((atF V n j : Nat) : Int)) (wn V k) (k : Nat) (by rw [atF_at n k hlt (by rw [← HX.out.2.2]; exact hv0)]))
          have hwl := wn_le V k
          clear hd3 ew
          go_upto_region 19 with (first | ((with_reducible refine at_append 52 ?_); refine stop_at ?_))
          refine ⟨?_⟩
          refine wpList_append_row1_at (w := w3) (X := #[.int .i64 (k : Int)]) (c := 1) rfl _ _ rfl Try.underlying52 info_intr (by omega) rfl (by simp [Value.oneCell']) b u9 (wn V k) _ rfl HL3.out.a9 w3.heap.size rfl rfl (by omega) hz3' ?_
          intro v9 w4 ho4 hg4 hq4 hat4
          have HL4 := Lib.hid (HL3.out.app9 ho4 hg4 hat4)
          have HB4 := Lib.hid ((below_alloc HB3.out (Obj.cells #[.int .i64 (k : Int)] 3)).grown hg4 (by have := HB3.out.size; simp; omega) (fun q hq => by have := hq4 q hq; omega))
          have hz4 : b ≤ w4.heap.size := by have := hg4.size; simp at this; omega
          have HO4 := Lib.hid ((HO3.out.kept (below_new w3 (Obj.cells #[.int .i64 (k : Int)] 3))).grown hg4 (fun e => by have := hq4 go e.symm; omega))
          have hwr3 : wr.heap.size < w3.heap.size := (Array.getElem?_eq_some_iff.1 HD3.out).1
          have hd4 : w4.heap[wr.heap.size]? = some (.cells (dA x c v) 39 (0, 0)) := by
            rw [hg4.block wr.heap.size (by simp; omega) (fun e => by have := (HL1.out.a9.lt _ e.symm).2; omega)]
            exact heap_up HD3.out
          have c4 : w4.cell? ⟨wr.heap.size, 2, none⟩ = some (.int .i64 v) := by rw [cellF hd4]; exact dA_2 x c v
          clear ho4 hg4 hq4 hat4 hd4 c3 q1 q2 f1 f2
          go_wp2_with (first | ((with_reducible refine at_append 48 ?_); refine stop_at ?_))
          refine ⟨?_⟩
          refine wpList_append_row1_at (w := w4) (X := #[.int .i64 v]) (c := 1) rfl _ _ rfl Try.underlying48 info_i64r (by omega) rfl (by simp [Value.oneCell']) b u8 (wn V k) _ rfl HL4.out.a8 w4.heap.size rfl rfl (by omega) hz4 ?_
          intro v8 w5 ho5 hg5 hq5 hat5
          have HL5 := Lib.hid (HL4.out.app8 ho5 hg5 hat5)
          have HB5 := Lib.hid ((below_alloc HB4.out (Obj.cells #[.int .i64 v] 2)).grown hg5 (by have := HB4.out.size; simp; omega) (fun q hq => by have := hq5 q hq; omega))
          have hz5 : b ≤ w5.heap.size := by have := hg5.size; simp at this; omega
          have HO5 := Lib.hid ((HO4.out.kept (below_new w4 (Obj.cells #[.int .i64 v] 2))).grown hg5 (fun e => by have := hq5 go e.symm; omega))
          clear ho5 hg5 hq5 hat5 c4
          go_wp2_with fail
          go_roundg (n - (k + 1))
          case measure => omega
          case rel =>
            obtain ⟨ex, ec, ev⟩ := HX.out
            refine ⟨k + 1, by omega, rfl, by go_num, by rw [HMN.out]; congr 1; omega, ⟨HB5.out, ?_, ow_next HO5.out ex (by omega) (by rw [decide_eq_false (by omega)])⟩, hz5⟩
            rw [EW.out, ← HZ7.out v ev.symm, ← HZ8.out, ← HZ9.out]; exact HL5.out
        · have c3 : w3.cell? ⟨wr.heap.size, 2, none⟩ = some (.int .i64 v) := by rw [cellF hd3]; exact dA_2 x c v
          clear hd3
          go_wp2_with fail
          go_roundg (n - (k + 1))
          case measure => omega
          case rel =>
            obtain ⟨ex, ec, ev⟩ := HX.out
            have ew : wn V (k + 1) = wn V k := by rw [wn_succ, if_neg (by omega)]; rfl
            refine ⟨k + 1, by omega, rfl, by go_num, by rw [HMN.out]; congr 1; omega, ⟨HB3.out, ?_, ow_next HO3.out ex (by omega) (by rw [decide_eq_false (by omega)])⟩, hz3'⟩
            rw [ew, ← HZ7.out v ev.symm]; exact HL3.out
    · obtain rfl : k = n := by omega
      have hsb := sumV_bd HM.out k hk
      have hmb := miss_bd HM.out k hk
      have HOL := Lib.hid HS.out.ls
      obtain ⟨a7, c7, rfl, hI7⟩ := own_ints HOL.out.a7
      have cs := fsum_any a7 k c7 V wr (fun i => (HFB.out i).2.2) hI7 (by omega)
      obtain ⟨sv, hsv⟩ : ∃ sv, sv = sumZ V k := ⟨_, rfl⟩
      rw [← hsv] at cs hsb
      rw [(fit_yes (v := sv) (by omega)).2.1, (fit_yes (v := sv) (by omega)).2.2] at cs
      obtain ⟨m0, hm0⟩ : ∃ m0, m0 = miss C V k := ⟨_, rfl⟩
      rw [← hm0] at hmb ⊢
      have HMM := Lib.hid hm0
      have hse : se = if sv ≠ 0 then 130 else 0 := by rw [HSEE.out, HSE.out, hsv]
      have HSV := Lib.hid hsv
      clear hI7 hsv hm0
      by_cases hv0 : sv = 0
      · subst hv0
        obtain rfl : se = 0 := hse
        obtain ⟨T, hT⟩ : ∃ T, T = m0 - min fund m0 := ⟨_, rfl⟩
        have hTb : 0 ≤ T ∧ T ≤ m0 := by omega
        obtain ⟨hsp, hprt⟩ := wZ_split (T := T) HM.out hn HSV.out.symm hTb.1 (by rw [← HMM.out]; exact hTb.2)
        have HPRT := Lib.hid (show ∀ j, j < wn V k → splP (wZ V k) (wn V k) T j = cutN fund k C V (atF V k j) from fun j hj => by
          rw [hprt j hj]; unfold cutN; rw [← HMM.out, ← hT])
        obtain ⟨a8, c8, rfl, hI8⟩ := own_ints HOL.out.a8
        obtain ⟨a9, c9, rfl⟩ := own_len HOL.out.a9
        have c2 := split_any a8 (wn V k) c8 (wZ V k) T wr (fun j => (HFB.out _).2.2) hI8 (by unfold F64; omega)
        unfold SplC at c2
        rw [hsp] at c2
        have HSP := Lib.hid hsp
        have wT : IntKind.i64.wrap (m0 - min fund m0) = T := by rw [IntKind.wrap_i64]; omega
        have hsf : sf = fund - min fund m0 := by rw [HSFF.out]; unfold sF; rw [if_pos HSEE.out.symm, ← HMM.out]
        have wF : IntKind.i64.wrap (fund - min fund m0) = sf := by rw [IntKind.wrap_i64]; omega
        have hml := wn_le V k
        obtain ⟨m, hmw⟩ : ∃ m, m = wn V k := ⟨_, rfl⟩
        have HMW := Lib.hid hmw
        rw [← hmw] at c2 hml ⊢
        have HT := Lib.hid hT
        clear hI8 hsp hprt hT hsf hmw
        go_wp2_with fail
        refine cs.mono ?_
        rintro e w4 ⟨rfl, rfl⟩
        clear cs
        go_wp2_with fail
        refine c2.mono ?_
        rintro e w5 ⟨⟨v5, rfl, hv5⟩, hb5⟩
        obtain ⟨gp, PA, rfl, hgp, hPA, hPs, hPp⟩ := hv5.1 (by rw [HMW.out]; exact HSP.out)
        have HB5 := Lib.hid hb5
        have HPA := Lib.hid hPA
        have HPP := Lib.hid (show ∀ j, j < m → PA[j]? = some (.int .i64 (cutN fund k C V (atF V k j) : Nat)) from fun j hj => by
          rw [hPp j hj]; rw [HMW.out] at hj ⊢; rw [HPRT.out j hj])
        have hgpb : b ≤ gp := by omega
        clear hv5 hPA hPs hPp hb5 c2
        have HO5 := Lib.hid (show OW w5 go k A (cutJ V (fun i => max (C i + V i) 0) (fun i => max (C i + V i) 0 - (cutN fund k C V i : Nat)) 0) (fun i => decide (C i + V i < 0)) (cutJ V (fun _ => 0) (fun i => (cutN fund k C V i : Nat)) 0) from by
          rw [cutJ_zero, cutJ_zero]
          exact (HS.out.ow.kept HB5.out).congr (fun i hi => by rw [if_pos hi]) (fun i hi => by rw [if_pos hi]) (fun i hi => by rw [if_pos hi]) (fun i _ => rfl))
        have HW5 := Lib.hid (below_then HS.out.below HB5.out)
        go_wp2_with fail
        go_loopg [115] m (fun gh vi wr2 => ∃ j : Nat, j ≤ m ∧ gh = m - j ∧ vi = .int .i64 j ∧ w5.grownBy wr2 (some go) ∧ OW wr2 go k A (cutJ V (fun i => max (C i + V i) 0) (fun i => max (C i + V i) 0 - (cutN fund k C V i : Nat)) j) (fun i => decide (C i + V i < 0)) (cutJ V (fun _ => 0) (fun i => (cutN fund k C V i : Nat)) j))
        case atStart => exact ⟨0, by omega, by omega, rfl, ⟨rfl, rfl, rfl, Nat.le_refl _, fun _ _ _ => rfl⟩, HO5.out⟩
        case round =>
          clear HO5
          obtain ⟨j, hj, rfl, rfl, hgr, hO⟩ := hrel
          have HO := Lib.hid hO
          have HGR := Lib.hid hgr
          clear hO hgr
          by_cases hjm : j < m
          · obtain ⟨g9, cap9, A9, e9, hb9, hg9, hA9⟩ := own_cell HOL.out.a9 (i := j) (by rw [← HMW.out]; exact hjm)
            injection e9 with e91 e92 e93
            subst e91; subst e93
            obtain ⟨hi1, hi2, hi3⟩ := atF_lt (V := V) k j (by rw [← HMW.out]; exact hjm)
            obtain ⟨i, hi⟩ : ∃ i, i = atF V k j := ⟨_, rfl⟩
            rw [← hi] at hA9 hi1 hi2 hi3
            have hpp := HPP.out j hjm
            rw [← hi] at hpp
            have hcl := cut_le (fund := fund) HM.out HSV.out.symm hf.1 hi1
            obtain ⟨_, hcb, hvb⟩ := dmay_at HM.out hi1
            have k9 : wr.heap[g9]? = some (.cells A9 3 (0, 0)) := by
              rw [HGR.out.block g9 ((Array.getElem?_eq_some_iff.1 (Yticdcdahehodkaa.kept HB5.out hg9)).1) (fun e => by injection e with e; omega)]; exact Yticdcdahehodkaa.kept HB5.out hg9
            have kp : wr.heap[gp]? = some (.cells PA 2 (0, 0)) := by
              rw [HGR.out.block gp ((Array.getElem?_eq_some_iff.1 HPA.out).1) (fun e => by injection e with e; omega)]; exact HPA.out
            have c9 := (cellF k9 j).trans hA9
            have cp := (cellF kp j).trans hpp
            obtain ⟨_, q1, _, q3, q4⟩ := HO.out.cells hi1
            rw [cutJ_at hi3] at q1 q3
            have f3 := q4 (i * 4 + 3)
            obtain ⟨ct, hct⟩ : ∃ ct, ct = cutN fund k C V i := ⟨_, rfl⟩
            rw [← hct] at cp hcl
            have HCT := Lib.hid hct
            have HO1 := Lib.hid (HO.out.setu hi1 (ct : Int))
            obtain ⟨_, r1, _, _, r4⟩ := HO1.out.cells hi1
            rw [cutJ_at hi3] at r1
            have f1 := r4 (i * 4 + 1)
            have cpb : (wr.setCell ⟨go, i * 4 + 3, none⟩ (.int .i64 (ct : Int))).cell? ⟨gp, j, none⟩ = some (.int .i64 (ct : Int)) := by
              rw [cellF (heap_set_other kp (by omega))]; rw [hpp, ← hct]
            obtain ⟨s0, hs0⟩ : ∃ s0, s0 = max (C i + V i) 0 := ⟨_, rfl⟩
            have hs0b : 0 ≤ s0 ∧ s0 ≤ 2000000000000000000 := by omega
            rw [← hs0] at q1 r1
            have HS9 := Lib.hid hs0
            have wsc : IntKind.i64.wrap (s0 - (ct : Int)) = s0 - ct := by rw [IntKind.wrap_i64]; omega
            have hik : (i : Int) < k := by omega
            have hjz : (j : Int) < m := by omega
            have HI3 := Lib.hid (And.intro hi2 hi3)
            clear hA9 hpp k9 kp hct hs0 q4 r4 hi hg9 hi3
            go_wp2_with fail
            go_region
            have HO2 := Lib.hid (HO1.out.setc hi1 (s0 - (ct : Int)))
            have HG2 := Lib.hid (HGR.out.trans ((set_grown wr go (i * 4 + 3) (.int .i64 (ct : Int))).trans (set_grown _ go (i * 4 + 1) (.int .i64 (s0 - (ct : Int))))))
            obtain ⟨wz, hwz⟩ : ∃ wz, wz = ((wr.setCell ⟨go, i * 4 + 3, none⟩ (.int .i64 (ct : Int))).setCell ⟨go, i * 4 + 1, none⟩ (.int .i64 (s0 - (ct : Int)))).drew := ⟨_, rfl⟩
            have HOZ := Lib.hid (show OW wz go k A (cutJ V (fun i => max (C i + V i) 0) (fun i => max (C i + V i) 0 - (cutN fund k C V i : Nat)) (j + 1)) (fun i => decide (C i + V i < 0)) (cutJ V (fun _ => 0) (fun i => (cutN fund k C V i : Nat)) (j + 1)) from by
              have h1 := HO2.out.drew
              rw [← hwz, HCT.out, HS9.out] at h1
              have e1 := cutJ_next (V := V) (f := fun i => max (C i + V i) 0) (g := fun i => max (C i + V i) 0 - (cutN fund k C V i : Nat)) HI3.out.1 HI3.out.2
              have e2 := cutJ_next (V := V) (f := fun _ => (0 : Int)) (g := fun i => ((cutN fund k C V i : Nat) : Int)) HI3.out.1 HI3.out.2
              rw [← e1, ← e2]; exact h1)
            have HGZ := Lib.hid (show w5.grownBy wz (some go) from by rw [hwz]; exact ⟨HG2.out.os, HG2.out.tape, HG2.out.output, HG2.out.size, HG2.out.block⟩)
            rw [← hwz]
            clear hwz HO1 HO2 HG2 c9 cp q1 q3 f3 r1 f1 cpb
            go_wp2_with fail
            go_roundg (m - (j + 1))
            case measure => omega
            case rel => exact ⟨j + 1, by omega, rfl, by go_num, HGZ.out, HOZ.out⟩
          · obtain rfl : j = m := by omega
            have HBF := Lib.hid (show Below w.heap.size w wr from HW5.out.grown HGR.out HW5.out.size (fun q hq => by injection hq with hq; omega))
            have HOF := Lib.hid (show OW wr go k A (fun i => max (C i + V i) 0 - (cutN fund k C V i : Nat)) (fun i => decide (C i + V i < 0)) (fun i => (cutN fund k C V i : Nat)) from by
              rw [HMW.out] at HO
              exact HO.out.congr (fun i _ => rfl) (fun i hi => (cutJ_all (f := fun i => max (C i + V i) 0) (g := fun i => max (C i + V i) 0 - (cutN fund k C V i : Nat)) hi (fun h => by show max (C i + V i) 0 = max (C i + V i) 0 - ((cutN fund k C V i : Nat) : Int); rw [cut_none HM.out HSV.out.symm hf.1 hi h]; omega)).symm) (fun i _ => rfl) (fun i hi => (cutJ_all (f := fun _ => (0 : Int)) (g := fun i => ((cutN fund k C V i : Nat) : Int)) hi (fun h => by show (0 : Int) = ((cutN fund k C V i : Nat) : Int); rw [cut_none HM.out HSV.out.symm hf.1 hi h]; rfl)).symm))
            clear HO HGR
            go_wp2_with fail
            go_ret3
            exact ⟨⟨_, rfl, fun _ => ⟨go, rfl, hwgo, HOF.out⟩, fun h => absurd HSEE.out.symm h⟩, HBF.out⟩
      · obtain rfl : se = 130 := by rw [hse, if_pos hv0]
        have hvz : (sv == 0) = false := by rw [beq_eq_false_iff_ne]; exact hv0
        have hsf : sf = 0 := by rw [HSFF.out]; unfold sF; rw [if_neg (by rw [← HSEE.out]; omega)]
        subst hsf
        go_wp2_with (first | (go_at_call 26; (with_reducible refine (cs).mono ?_); rintro e w4 ⟨rfl, rfl⟩))
        go_ret3
        exact ⟨⟨_, rfl, fun h => by rw [← HSEE.out] at h; omega, fun _ => rfl⟩, HS.out.below⟩
theorem settle_any (fund : Int) (a : Option Addr) (n cap : Nat) (A C V : Nat → Int) (w : World) (hb : ∀ i, (0 ≤ A i ∧ A i ≤ 4294967295) ∧ F64 (C i) ∧ F64 (V i)) (hA : Dues w a n A C V) : SetC fund a n cap A C V w := by
  by_cases h1 : 64 < n ∨ (dmay A C V n && inB fund 0 1000000000000000) = false
  · exact settle_bad fund a n cap A C V w hb hA h1
  · have h2 : (dmay A C V n && inB fund 0 1000000000000000) = true := by
      cases h : (dmay A C V n && inB fund 0 1000000000000000)
      · exact absurd (.inr h) h1
      · rfl
    rw [Bool.and_eq_true] at h2
    exact settle_ok fund a n cap A C V w hb hA (by
      apply Classical.byContradiction; intro h; exact h1 (.inl (by omega))) h2.1 (inB_iff.1 h2.2)
end Go.Proofs.Yticdcdahehodkaa
/-! The document's Same of those settled; the known example of layer 13. No condition. -/
namespace Go.Proofs.Yticdcdahehodkaa
set_option linter.unusedVariables false
set_option linter.unusedSimpArgs false
open Go.RowKit

theorem kl_bool {d o : Nat} {t : TypeId} {cs : List Value} {b : Bool} (hu : Try.prog.underlying t = some .bool) (hc : Try.prog.cellsOf t = 1) (h : cs[o]? = some (.bool b)) :
    ∃ l, Try.prog.keyLits (d + 1) t ((cs.drop o).take (Try.prog.cellsOf t)) = some l := by
  have hlt : o < cs.length := (List.getElem?_eq_some_iff.1 h).1
  have e : (cs.drop o).take 1 = [.bool b] := by
    rw [List.drop_eq_getElem_cons hlt, List.take_succ_cons, List.take_zero, (List.getElem?_eq_some_iff.1 h).2]
  rw [hc, e]
  unfold Program.keyLits
  rw [hu]
  exact ⟨_, rfl⟩
theorem neq_set (x c : Int) (d : Bool) (u : Int) (hx : 0 ≤ x ∧ x ≤ 4294967295) (hc : F64 c) (hu : F64 u) (w : World) : (binOp .neq 43 (.agg (sA x c d u)) (.agg (sA x c d u))).run Try.prog w = .ok (.bool false) w := by
  have hcs : Try.prog.cellsOf 43 = 4 := by kernel_rfl
  have c2 : Try.prog.cellsOf 2 = 1 := by kernel_rfl
  have c3 : Try.prog.cellsOf 30 = 1 := by kernel_rfl
  have c4 : Try.prog.cellsOf 4 = 1 := by kernel_rfl
  refine neq_keys Try.underlying43 (by rw [hcs]; rfl) (by kernel_rfl) (kl_fields Try.underlying43 (by rw [hcs]; rfl) (by kernel_rfl) fun f hf => ?_) w
  simp only [List.mem_cons, List.not_mem_nil, or_false] at hf
  rcases hf with rfl | rfl | rfl | rfl
  · exact kl_int Try.underlying30 c3 (IsN_of (n := x) rfl hx)
  · exact kl_int Try.underlying2 c2 (IsN_of (n := c) rfl hc)
  · exact kl_bool (b := d) Try.underlying4 c4 rfl
  · exact kl_int Try.underlying2 c2 (IsN_of (n := u) rfl hu)
theorem OW.ext {w : World} {g n i : Nat} {a c : Nat → Int} {d : Nat → Bool} {u : Nat → Int} (h : OW w g n a c d u) (hi : i < n) : ∃ G, w.heap[g]? = some (.cells G 43 (0, 0)) ∧ i * 4 + 4 ≤ G.size ∧ G.extract (i * 4) (i * 4 + 4) = sA (a i) (c i) (d i) (u i) := by
  obtain ⟨G, h1, h2, h3⟩ := h.row
  obtain ⟨e0, e1, e2, e3⟩ := h3 i hi
  refine ⟨G, h1, by omega, ?_⟩
  apply Array.ext_getElem?
  intro j
  rw [Array.getElem?_extract]
  by_cases hj : j < 4
  · rw [if_pos (by omega)]
    have : j = 0 ∨ j = 1 ∨ j = 2 ∨ j = 3 := by omega
    rcases this with rfl | rfl | rfl | rfl
    · rw [Nat.add_zero, e0]; rfl
    · rw [e1]; rfl
    · rw [e2]; rfl
    · rw [e3]; rfl
  · rw [if_neg (by omega), Array.getElem?_eq_none_iff.2 (by rw [sA_size]; omega)]

set_option maxRecDepth 100000 in
set_option maxHeartbeats 2000000 in
/-- two rows of those settled alike -/
theorem same13_any (g1 g2 n ca cb : Nat) (a c : Nat → Int) (d : Nat → Bool) (u : Nat → Int) (w : World) (hb : ∀ i, i < n → (0 ≤ a i ∧ a i ≤ 4294967295) ∧ F64 (c i) ∧ F64 (u i)) (hA : OW w g1 n a c d u) (hB : OW w g2 n a c d u) (hn : n ≤ 100000) :
    Calls Try.prog 18 #[.slice (some ⟨g1, 0, none⟩) n ca, .slice (some ⟨g2, 0, none⟩) n cb] w fun e w' => e = .returned (.bool true) ∧ Below w.heap.size w w' := by
  have HA := Lib.hid hA
  have HB := Lib.hid hB
  have HD := Lib.hid hb
  clear hA hB hb
  go_enter Try.func18, Try.ntmps18
  go_wp2
  go_loopg [5] n (fun gh i wr => ∃ k : Nat, k ≤ n ∧ gh = n - k ∧ i = .int .i64 k ∧ Below w.heap.size w wr)
  case atStart => exact ⟨0, by omega, by omega, rfl, Below.refl _ _⟩
  case round =>
    obtain ⟨k, hk, rfl, rfl, hb⟩ := hrel
    by_cases hlt : k < n
    · obtain ⟨B, hg, hs, he⟩ := (HA.out.kept hb).ext hlt
      obtain ⟨B2, hg2, hs2, he2⟩ := (HB.out.kept hb).ext hlt
      have hki : (k : Int) < n := by omega
      have hne := neq_set (a k) (c k) (d k) (u k) (HD.out k hlt).1 (HD.out k hlt).2.1 (HD.out k hlt).2.2
      generalize sA (a k) (c k) (d k) (u k) = X at *
      go_wp2
      refine wp_region_below (by kernel_rfl) (by kernel_rfl) ?_
      repeat (first | ((with_reducible apply q_skip); (case hw => rfl); (try simp only [Act.put, List.setIfInBounds_toArray, List.set_cons_zero, List.set_cons_succ])) | ((with_reducible refine at_qload 43 ?_); refine q_load_part (by rfl) 43 _ rfl (g1) (k * 4) rfl _ (B) _ 4 (hg) Try.underlying43 rfl (by kernel_rfl) (hs) (X) (he) ?_; try simp only [Act.put, List.setIfInBounds_toArray, List.set_cons_zero, List.set_cons_succ]) | ((with_reducible refine at_qload 43 ?_); refine q_load_part (by rfl) 43 _ rfl (g2) (k * 4) rfl _ (B2) _ 4 (hg2) Try.underlying43 rfl (by kernel_rfl) (hs2) (X) (he2) ?_; try simp only [Act.put, List.setIfInBounds_toArray, List.set_cons_zero, List.set_cons_succ]) | ((with_reducible apply q_val); (case hw => rfl); (case hv => intro wq hbq; go_simp; try rfl); (try simp only [Act.put, List.setIfInBounds_toArray, List.set_cons_zero, List.set_cons_succ])))
      refine q_nil ?_
      intro w4 hb4
      go_wp2
      go_roundg (n - (k + 1))
      case measure => omega
      case rel => exact ⟨k + 1, by omega, rfl, by go_num, below_then hb hb4⟩
    · obtain rfl : k = n := by omega
      go_wp2
      go_ret
      exact ⟨rfl, hb⟩

def sAk : Nat → Int := fun i => if i = 0 then 1 else if i = 1 then 2 else 3
def sCk : Nat → Int := fun i => if i = 0 then 10 else 0
def sVk : Nat → Int := fun i => if i = 0 then -30 else if i = 1 then 20 else 10
theorem s_E : sE 5 3 sAk sCk sVk = 0 := by decide
theorem s_F : sF 5 3 sAk sCk sVk = 0 := by decide
theorem s_cut : cutN 5 3 sCk sVk 0 = 0 ∧ cutN 5 3 sCk sVk 1 = 10 ∧ cutN 5 3 sCk sVk 2 = 5 := by decide
def rCk : Nat → Int := fun i => if i = 0 then 0 else if i = 1 then 10 else 5
def rDk : Nat → Bool := fun i => decide (i = 0)
def rUk : Nat → Int := fun i => if i = 0 then 0 else if i = 1 then 10 else 5
theorem block_dues {w : World} {g n : Nat} {B : Array Value} {t : TypeId} {fr : Nat × Nat} {A C V : Nat → Int} (hg : w.heap[g]? = some (.cells B t fr)) (hs : B.size = n * 3) (h : ∀ i, i < n → B[i * 3]? = some (.int .u32 (A i)) ∧ B[i * 3 + 1]? = some (.int .i64 (C i)) ∧ B[i * 3 + 2]? = some (.int .i64 (V i))) : Dues w (some ⟨g, 0, none⟩) n A C V := fun i hi => by
  refine ⟨g, 0, B, t, fr, rfl, hg, by omega, ?_⟩
  apply Array.ext_getElem?
  intro j
  rw [Array.getElem?_extract]
  by_cases hj : j < 3
  · rw [if_pos (by omega)]
    have : j = 0 ∨ j = 1 ∨ j = 2 := by omega
    rcases this with rfl | rfl | rfl
    · rw [Nat.zero_add, Nat.add_zero, (h i hi).1]; rfl
    · rw [Nat.zero_add, (h i hi).2.1]; rfl
    · rw [Nat.zero_add, (h i hi).2.2]; rfl
  · rw [if_neg (by omega), Array.getElem?_eq_none_iff.2 (by rw [dA_size]; omega)]
set_option maxRecDepth 100000 in
set_option maxHeartbeats 2000000 in
theorem known13 (w : World) : Calls Try.prog 15 #[] w fun e w' => e = .returned (.bool true) ∧ Below w.heap.size w w' := by
  have h1 : Dues (w.alloc (.cells #[.int .u32 1, .int .i64 10, .int .i64 (-30), .int .u32 2, .int .i64 0, .int .i64 20, .int .u32 3, .int .i64 0, .int .i64 10] 39)) (some ⟨w.heap.size, 0, none⟩) 3 sAk sCk sVk :=
    block_dues (heap_alloc_new _ _) rfl (fun i hi => by
      have : i = 0 ∨ i = 1 ∨ i = 2 := by omega
      rcases this with rfl | rfl | rfl <;> exact ⟨rfl, rfl, rfl⟩)
  have c1 := settle_any 5 (some ⟨w.heap.size, 0, none⟩) 3 3 sAk sCk sVk _ (fun i => by unfold sAk sCk sVk F64; refine ⟨?_, ?_, ?_⟩ <;> (split <;> (try split) <;> omega)) h1
  unfold SetC at c1
  rw [s_E, s_F] at c1
  have HT := Lib.hid (fun (s : Nat) (w' : World) (v : Value) (h : SetV 5 3 sAk sCk sVk s w' v) => show ∃ g, v = .slice (some ⟨g, 0, none⟩) 3 3 ∧ OW w' g 3 sAk rCk rDk rUk from by
    obtain ⟨g, e, _, h2⟩ := h.1 s_E
    refine ⟨g, e, h2.congr (fun i _ => rfl) (fun i hi => ?_) (fun i hi => ?_) (fun i hi => ?_)⟩
    all_goals
      have : i = 0 ∨ i = 1 ∨ i = 2 := by omega
      rcases this with rfl | rfl | rfl
    · rw [s_cut.1]; rfl
    · rw [s_cut.2.1]; rfl
    · rw [s_cut.2.2]; rfl
    · rfl
    · rfl
    · rfl
    · rw [s_cut.1]; rfl
    · rw [s_cut.2.1]; rfl
    · rw [s_cut.2.2]; rfl)
  have HS := Lib.hid (fun (wx : World) (g : Nat) (h : OW wx g 3 sAk rCk rDk rUk) => same13_any g wx.heap.size 3 3 3 sAk rCk rDk rUk (wx.alloc (.cells #[.int .u32 1, .int .i64 0, .bool true, .int .i64 0, .int .u32 2, .int .i64 10, .bool false, .int .i64 10, .int .u32 3, .int .i64 5, .bool false, .int .i64 5] 43))
    (fun i _ => by unfold sAk rCk rUk F64; refine ⟨?_, ?_, ?_⟩ <;> (split <;> (try split) <;> omega)) (h.kept (below_new _ _)) ⟨_, heap_alloc_new _ _, rfl, fun i hi => by
      have : i = 0 ∨ i = 1 ∨ i = 2 := by omega
      rcases this with rfl | rfl | rfl <;> exact ⟨rfl, rfl, rfl, rfl⟩⟩ (by omega))
  clear h1
  go_enter Try.func15, Try.ntmps15
  go_wp2_with (first | ((with_reducible refine at_buildSlice 34 ?_); refine wpList_slice_named rfl 34 39 3 _ rfl #[.int .u32 1, .int .i64 10, .int .i64 (-30), .int .u32 2, .int .i64 0, .int .i64 20, .int .u32 3, .int .i64 0, .int .i64 10] Try.underlying34 (by kernel_rfl) ?_) | (go_at_call 16; (with_reducible refine (c1).mono ?_); rintro e w1 ⟨⟨v, rfl, hv⟩, hb1⟩; obtain ⟨g2, rfl, h2⟩ := HT.out _ _ _ hv; have cs := HS.out _ _ h2; clear hv h2) | ((with_reducible refine at_buildSlice 35 ?_); refine wpList_slice_named rfl 35 43 3 _ rfl #[.int .u32 1, .int .i64 0, .bool true, .int .i64 0, .int .u32 2, .int .i64 10, .bool false, .int .i64 10, .int .u32 3, .int .i64 5, .bool false, .int .i64 5] Try.underlying35 (by kernel_rfl) ?_) | (go_at_call 18; (with_reducible refine (cs).mono ?_); rintro e w2 ⟨rfl, hb2⟩))
  go_ret
  exact ⟨rfl, below_then (below_then (below_new _ _) hb1) (below_then (below_new _ _) hb2)⟩
end Go.Proofs.Yticdcdahehodkaa
/-! The document's sum of a slice of integers; two slices compared. Condition: the numbers fit their kinds; not too many. -/
namespace Go.Proofs.Yticdcdahehodkaa
set_option linter.unusedVariables false
set_option linter.unusedSimpArgs false
open Go.RowKit

def xs (Z : Nat → Int) : Nat → Bool × Array Value
  | 0 => (oS 0, oV 0)
  | k + 1 => (psS (xs Z k).1 (xs Z k).2 (oS (Z k)) (oV (Z k)), psD (xs Z k).1 (xs Z k).2 (oS (Z k)) (oV (Z k)))
theorem xs_all {Z : Nat → Int} (hZ : ∀ i, F64 (Z i)) : ∀ k, k ≤ 2000 → IsD (xs Z k).2 ∧ sv (xs Z k).1 (xs Z k).2 = sumZ Z k ∧ lv (xs Z k).2 12 ≤ k * 9223372036854775808 + 9223372036854775808
  | 0, _ => by
    have h0 : F64 0 := by unfold F64; omega
    exact ⟨oV_D 0, (o_val h0).1, by have := (o_val h0).2; simp only [xs]; omega⟩
  | k + 1, hk => by
    obtain ⟨h1, h2, h3⟩ := xs_all hZ k (by omega)
    obtain ⟨h4, h5⟩ := o_val (hZ k)
    have h6 := ps_val (s := (xs Z k).1) (t := oS (Z k)) h1 (oV_D (Z k)) (by have := P16_12; omega)
    refine ⟨ps_D h1 (oV_D _), ?_, ?_⟩
    · show sv (psS (xs Z k).1 (xs Z k).2 (oS (Z k)) (oV (Z k))) (psD (xs Z k).1 (xs Z k).2 (oS (Z k)) (oV (Z k))) = sumZ Z k + Z k
      rw [h6.1, h2, h4]
    · show lv (psD (xs Z k).1 (xs Z k).2 (oS (Z k)) (oV (Z k))) 12 ≤ _
      have := h6.2
      omega
def xn (Z : Nat → Int) (k : Nat) : Array Value := nm (xs Z k).1 (xs Z k).2

set_option maxRecDepth 100000 in
set_option maxHeartbeats 2000000 in
theorem rlist_any (a : Option Addr) (n cap : Nat) (Z : Nat → Int) (w : World) (hZ : ∀ i, F64 (Z i)) (hA : Ints w a n Z) (hn : n ≤ 2000) :
    Calls Try.prog 37 #[.slice a n cap] w fun e w' => e = .returned (.agg (xn Z n)) ∧ Below w.heap.size w w' := by
  have HA := Lib.hid hA
  have HZ := Lib.hid hZ
  have hX : ∀ k, k ≤ 2000 → (xn Z k).size = 13 ∧ (xn Z k).all (·.oneCell') = true := fun k hk => ⟨nm_size (xs_all hZ k hk).1.size, nm_all (xs_all hZ k hk).1⟩
  have HX := Lib.hid hX
  have hc : ∀ k, k ≤ 2000 → ∀ w, Calls Try.prog 28 #[.agg (xn Z k), .agg (nm (oS (Z k)) (oV (Z k)))] w fun e w' => e = .returned (.agg (xn Z (k + 1))) ∧ Below w.heap.size w w' :=
    fun k hk w => add_any _ _ _ _ w (xs_all hZ k hk).1 (oV_D (Z k))
  have HC := Lib.hid hc
  have c0 := fun w => of_any' 0 w (by unfold F64; omega)
  have HZs := Lib.hid (show (nm false z12).size = 13 from nm_size z12_D.size)
  clear hA hZ hX hc
  rw [show nm (oS 0) (oV 0) = xn Z 0 from rfl] at c0
  generalize hZ0 : nm false z12 = Z0 at *
  have HZ0 := Lib.hid hZ0
  clear hZ0
  go_enter Try.func37, Try.ntmps37
  go_wp2_with (first | ((with_reducible refine at_alloc 58 ?_); refine wpList_alloc_named rfl 58 rfl Z0 (by rw [← HZ0.out]; kernel_rfl) ?_) | (go_at_call 27; (with_reducible refine (c0 _).mono ?_); rintro e w1 ⟨rfl, hb1⟩) | ((with_reducible refine at_store 58 ?_); refine wpList_store_new rfl 58 _ _ rfl (xn Z 0) _ _ _ rfl (by simp) rfl (by rw [(HX.out 0 (by omega)).1]; kernel_rfl) (by rw [(HX.out 0 (by omega)).1]; exact HZs.out) (HX.out 0 (by omega)).2 ?_))
  obtain ⟨gx, hgx⟩ : ∃ gx, gx = w1.heap.size := ⟨_, rfl⟩
  have hb1' := below_then (below_new w (.cells Z0 58)) hb1
  have hs1 := hb1'.size
  have hs1' : w.heap.size < w1.heap.size := by have := hb1.size; simp at this; omega
  have hr0 := Yticdcdahehodkaa.kept hb1 (heap_alloc_new w (.cells Z0 58))
  obtain ⟨w2, hw2⟩ : ∃ w2, w2 = w1.alloc (.cells (xn Z 0) 58) := ⟨_, rfl⟩
  have hx2 : w2.heap[gx]? = some (.cells (xn Z 0) 58 (0, 0)) := by rw [hw2, hgx]; exact heap_alloc_new _ _
  have hr2 : w2.heap[w.heap.size]? = some (.cells Z0 58 (0, 0)) := by rw [hw2]; exact Yticdcdahehodkaa.kept (below_new _ _) hr0
  have hb2 : Below w.heap.size w w2 := by rw [hw2]; exact below_alloc hb1' _
  rw [← hw2, ← hgx]
  have hgxw : w.heap.size < gx := by omega
  clear hw2 hb1 hb1' hs1 hs1' hr0 hgx
  go_loopg [4] n (fun gh i wr => ∃ k : Nat, k ≤ n ∧ gh = n - k ∧ i = .int .i64 k ∧ wr.heap[gx]? = some (.cells (xn Z k) 58 (0, 0)) ∧ wr.heap[w.heap.size]? = some (.cells Z0 58 (0, 0)) ∧ Below w.heap.size w wr)
  case atStart => exact ⟨0, by omega, by omega, rfl, hx2, hr2, hb2⟩
  case round =>
    clear hx2 hr2 hb2
    obtain ⟨k, hk, rfl, rfl, hgX, hgZ, hb⟩ := hrel
    obtain ⟨xs1, xs2⟩ := HX.out k (by omega)
    have HSX := Lib.hid xs1
    have HEX := Lib.hid (extract_all xs1)
    have HAX := Lib.hid xs2
    clear xs1 xs2
    by_cases hlt : k < n
    · obtain ⟨g, off, A, t, fr, rfl, hgA, hz⟩ := (HA.out.kept hb) k hlt
      obtain ⟨ys1, ys2⟩ := HX.out (k + 1) (by omega)
      have HSY := Lib.hid ys1
      have HAY := Lib.hid ys2
      clear ys1 ys2
      have co := fun w => of_any' (Z k) w (HZ.out k)
      have cp := HC.out k (by omega)
      have hz64 := HZ.out k
      unfold F64 at hz64
      have hki : (k : Int) < n := by omega
      generalize nm (oS (Z k)) (oV (Z k)) = Y at *
      generalize hX2 : xn Z (k + 1) = X2 at *
      have HX2 := Lib.hid hX2
      clear hX2
      generalize xn Z k = X at *
      generalize Z k = z at *
      go_wp2
      refine wp_region_tail 7 (by kernel_rfl) (by kernel_rfl) (by kernel_rfl) (by kernel_rfl) rfl rfl (by kernel_rfl) (by kernel_rfl) ?_
      simp only [List.take, List.getD, List.getElem?_cons_succ, List.getElem?_cons_zero, Option.getD]
      repeat (first | ((with_reducible apply q_skip); (case hw => rfl); (try simp only [Act.put, List.setIfInBounds_toArray, List.set_cons_zero, List.set_cons_succ])) | ((with_reducible refine at_qload 58 ?_); refine q_load_part (by rfl) 58 _ rfl (gx) (0) rfl _ (X) _ 13 (hgX) Try.underlying58 rfl (by kernel_rfl) (by rw [HSX.out]; omega) (X) (HEX.out) ?_; try simp only [Act.put, List.setIfInBounds_toArray, List.set_cons_zero, List.set_cons_succ]) | ((with_reducible refine at_qcall 27 ?_); refine q_call_below _ 27 _ (by rfl) (co) (fun wq hbq => by go_simp) ?_; try simp only [Act.put, List.setIfInBounds_toArray, List.set_cons_zero, List.set_cons_succ]) | ((with_reducible refine at_qcall 28 ?_); refine q_call_below _ 28 _ (by rfl) (cp) (fun wq hbq => by go_simp) ?_; try simp only [Act.put, List.setIfInBounds_toArray, List.set_cons_zero, List.set_cons_succ]) | ((with_reducible apply q_val); (case hw => rfl); (case hv => intro wq hbq; have hcq := cellF (Yticdcdahehodkaa.kept hbq hgA); go_simp; try rfl); (try simp only [Act.put, List.setIfInBounds_toArray, List.set_cons_zero, List.set_cons_succ])))
      refine q_nil ?_
      intro w4 hb4
      refine op_store_over 58 _ _ rfl gx X2 rfl rfl 58 X (Yticdcdahehodkaa.kept hb4 hgX) (by rw [HSY.out]; kernel_rfl) (by rw [HSY.out]; exact HSX.out) HAY.out ?_
      intro w5 hg5 hb5
      have hgZ5 : w5.heap[w.heap.size]? = some (.cells Z0 58 (0, 0)) := ((hb5 gx (Nat.le_refl _)).block _ hgxw).trans (Yticdcdahehodkaa.kept hb4 hgZ)
      go_wp2
      go_roundg (n - (k + 1))
      case measure => omega
      case rel => exact ⟨k + 1, by omega, rfl, by go_num, by rw [HX2.out]; exact hg5, hgZ5, (below_then hb hb4).trans (hb5 _ (by omega))⟩
    · obtain rfl : k = n := by omega
      generalize hXX : xn Z k = X at *
      have HXX := Lib.hid hXX
      clear hXX
      go_wp2_with (first | ((with_reducible refine at_load 58 ?_); refine wpList_load_part rfl 58 _ rfl (gx) (0) rfl _ (X) _ _ 13 (hgX) Try.underlying58 rfl (by kernel_rfl) (by rw [HSX.out]; omega) (X) (HEX.out) ?_) | ((with_reducible refine at_store 58 ?_); refine wpList_store_over rfl 58 _ _ rfl (w.heap.size) (X) rfl rfl _ _ (hgZ) (by rw [HSX.out]; kernel_rfl) (by rw [HSX.out]; exact HZs.out) (HAX.out) ?_; intro w5 hg5 hs5 ho5 hb5))
      exact bodyPost_ret (results_cell_any rfl _ _ _ _ _ _ rfl hg5 Try.underlying58 rfl (by rw [HSX.out]; kernel_rfl)) rfl ⟨by rw [HXX.out], hb.trans (hb5 _ (Nat.le_refl _))⟩

end Go.Proofs.Yticdcdahehodkaa
/-! The document's Split: when there are no parts. Condition: the numbers fit their kinds. -/
namespace Go.Proofs.Yticdcdahehodkaa
set_option linter.unusedVariables false
set_option linter.unusedSimpArgs false
open Go.RowKit

/-- the slice of the document's parts: its own row -/
def RSplV (Z : Nat → Int) (n : Nat) (T : Int) (s : Nat) (w' : World) (v : Value) : Prop :=
  (splE Z n T = 0 → w'.ownsRow s 2 1 v n (zl (fun i => (splP Z n T i : Nat)) n)) ∧ (splE Z n T ≠ 0 → v = .slice none 0 0)
def RSplC (a : Option Addr) (n cap : Nat) (Z : Nat → Int) (T : Int) (w : World) : Prop :=
  Calls Try.prog 24 #[.int .i64 T, .slice a n cap] w fun e w' => (∃ v, e = .returned (.tuple #[v, .int .i64 (splE Z n T)]) ∧ RSplV Z n T w.heap.size w' v) ∧ Below w.heap.size w w'

set_option maxRecDepth 100000 in
set_option maxHeartbeats 2000000 in
theorem rspl_long (a : Option Addr) (n cap : Nat) (Z : Nat → Int) (T : Int) (w : World) (hn : 1000 < n) : RSplC a n cap Z T w := by
  have he : splE Z n T = 3 := by unfold splE; rw [if_pos hn]
  unfold RSplC
  rw [he]
  have hni : (1000 : Int) < n := by omega
  have HE := Lib.hid he
  clear he
  go_enter Try.func24, Try.ntmps24
  go_wp2
  go_ret2
  exact ⟨⟨_, rfl, fun h => by rw [HE.out] at h; omega, fun _ => rfl⟩, Below.refl _ _⟩

set_option maxRecDepth 100000 in
set_option maxHeartbeats 2000000 in
theorem rspl_neg (a : Option Addr) (n cap : Nat) (Z : Nat → Int) (T : Int) (w : World) (hn : n ≤ 1000) (hA : Ints w a n Z) (h : T < 0 ∨ ∃ i, i < n ∧ Z i < 0) : RSplC a n cap Z T w := by
  have he : splE Z n T = 2 := by unfold splE; rw [if_neg (by omega), if_pos h]
  unfold RSplC
  rw [he]
  have hni : ¬ (1000 : Int) < n := by omega
  have HE := Lib.hid he
  have HA := Lib.hid hA
  have HH := Lib.hid h
  clear he hA h
  by_cases hT : T < 0
  · go_enter Try.func24, Try.ntmps24
    go_wp2
    go_loopg [6] n (fun gh v6 wr => ∃ k : Nat, k ≤ n ∧ gh = n - k ∧ v6 = .int .i64 k ∧ wr = w)
    case atStart => exact ⟨0, by omega, by omega, rfl, rfl⟩
    case round =>
      obtain ⟨k, hk, rfl, rfl, rfl⟩ := hrel
      by_cases hlt : k < n
      · have hki : (k : Int) < n := by omega
        obtain ⟨g, off, B, t, fr, rfl, hg, hz⟩ := HA.out k hlt
        have cg := cellF hg
        by_cases hz0 : Z k < 0
        · generalize Z k = z at *
          go_wp2
          go_ret2
          exact ⟨⟨_, rfl, fun h => by rw [HE.out] at h; omega, fun _ => rfl⟩, Below.refl _ _⟩
        · generalize Z k = z at *
          go_wp2
          go_roundg (n - (k + 1))
          case measure => omega
          case rel => exact ⟨k + 1, by omega, rfl, by go_num, rfl⟩
      · obtain rfl : k = n := by omega
        go_wp2
        go_ret2
        exact ⟨⟨_, rfl, fun h => by rw [HE.out] at h; omega, fun _ => rfl⟩, Below.refl _ _⟩
  · go_enter Try.func24, Try.ntmps24
    go_wp2
    go_loopg [6] n (fun gh v6 wr => ∃ k : Nat, k ≤ n ∧ gh = n - k ∧ v6 = .int .i64 k ∧ (∀ i, i < k → 0 ≤ Z i) ∧ wr = w)
    case atStart => exact ⟨0, by omega, by omega, rfl, fun i hi => by omega, rfl⟩
    case round =>
      obtain ⟨k, hk, rfl, rfl, hp, rfl⟩ := hrel
      have HP := Lib.hid hp
      clear hp
      by_cases hlt : k < n
      · have hki : (k : Int) < n := by omega
        obtain ⟨g, off, B, t, fr, rfl, hg, hz⟩ := HA.out k hlt
        have cg := cellF hg
        obtain ⟨z, hze⟩ : ∃ z, z = Z k := ⟨_, rfl⟩
        rw [← hze] at hz
        have HZE := Lib.hid hze
        clear hze
        by_cases hz0 : z < 0
        · go_wp2
          go_ret2
          exact ⟨⟨_, rfl, fun h => by rw [HE.out] at h; omega, fun _ => rfl⟩, Below.refl _ _⟩
        · have HZ0 := Lib.hid hz0
          go_wp2
          go_roundg (n - (k + 1))
          case measure => omega
          case rel => exact ⟨k + 1, by omega, rfl, by go_num, fun i hi => by
            by_cases e : i = k
            · subst e; have := HZ0.out; have := HZE.out; omega
            · exact HP.out i (by omega), rfl⟩
      · exfalso
        obtain ⟨i, h1, h2⟩ := HH.out.resolve_left (by omega)
        have := HP.out i (by omega)
        omega
end Go.Proofs.Yticdcdahehodkaa
