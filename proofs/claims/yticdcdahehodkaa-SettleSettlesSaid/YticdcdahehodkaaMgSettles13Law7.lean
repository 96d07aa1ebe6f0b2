/- Texts that Settles13Law stands on, one behind the other, part 7. Conditions: each theorem names its own. -/
import Derived.Test.YticdcdahehodkaaMgSettles13Law6
import Derived.Test.YticdcdahehodkaaShelf
/-! Parts of a total by weights, plainly: floors, rests, who has one more. Nothing of the program is in it. -/
namespace Go.Proofs.Yticdcdahehodkaa
set_option linter.unusedVariables false
set_option linter.unusedSimpArgs false

def sumN (W : Nat → Nat) : Nat → Nat
  | 0 => 0
  | k + 1 => sumN W k + W k
theorem sumN_congr {W V : Nat → Nat} : ∀ n, (∀ i, i < n → W i = V i) → sumN W n = sumN V n
  | 0, _ => rfl
  | n + 1, h => by
    show sumN W n + W n = sumN V n + V n
    rw [sumN_congr n (fun i hi => h i (by omega)), h n (by omega)]
theorem sumN_add (W V : Nat → Nat) : ∀ n, sumN (fun i => W i + V i) n = sumN W n + sumN V n
  | 0 => rfl
  | n + 1 => by
    show sumN (fun i => W i + V i) n + (W n + V n) = (sumN W n + W n) + (sumN V n + V n)
    rw [sumN_add W V n]; omega
theorem sumN_mul (W : Nat → Nat) (c : Nat) : ∀ n, sumN (fun i => c * W i) n = c * sumN W n
  | 0 => rfl
  | n + 1 => by
    show sumN (fun i => c * W i) n + c * W n = c * (sumN W n + W n)
    rw [sumN_mul W c n, Nat.mul_add]
theorem sumN_le {W V : Nat → Nat} : ∀ n, (∀ i, i < n → W i ≤ V i) → sumN W n ≤ sumN V n
  | 0, _ => Nat.le_refl _
  | n + 1, h => by
    show sumN W n + W n ≤ sumN V n + V n
    have := sumN_le n (fun i hi => h i (by omega)); have := h n (by omega); omega
theorem sumN_mono (W : Nat → Nat) {k : Nat} : ∀ n, k ≤ n → sumN W k ≤ sumN W n
  | 0, h => by rw [Nat.le_zero.1 h]; exact Nat.le_refl _
  | n + 1, h => by
    by_cases e : k = n + 1
    · rw [e]; exact Nat.le_refl _
    · have := sumN_mono W n (show k ≤ n by omega)
      show sumN W k ≤ sumN W n + W n
      omega
theorem sumN_one (W : Nat → Nat) {n i : Nat} (h : i < n) : W i ≤ sumN W n := by
  have := sumN_mono W n (show i + 1 ≤ n by omega)
  have e : sumN W (i + 1) = sumN W i + W i := rfl
  omega
theorem sumN_const (c : Nat) : ∀ n, sumN (fun _ => c) n = n * c
  | 0 => by simp [sumN]
  | n + 1 => by
    show sumN (fun _ => c) n + c = (n + 1) * c
    rw [sumN_const c n, Nat.add_mul, Nat.one_mul]

def b01 (b : Bool) : Nat := if b then 1 else 0
theorem b01_le (b : Bool) : b01 b ≤ 1 := by cases b <;> simp [b01]
/-- how many of the first n -/
def cnt (p : Nat → Bool) (n : Nat) : Nat := sumN (fun i => b01 (p i)) n
theorem cnt_mono {p q : Nat → Bool} {n : Nat} (h : ∀ i, i < n → p i = true → q i = true) : cnt p n ≤ cnt q n := sumN_le n fun i hi => by
  cases hp : p i
  · simp [b01]
  · rw [h i hi hp]; exact Nat.le_refl _
theorem cnt_congr {p q : Nat → Bool} {n : Nat} (h : ∀ i, i < n → p i = q i) : cnt p n = cnt q n := sumN_congr n fun i hi => by rw [h i hi]
theorem cnt_add {p q : Nat → Bool} {x : Nat} : ∀ n, x < n → p x = false → q x = true → (∀ i, i < n → i ≠ x → q i = p i) → cnt q n = cnt p n + 1
  | 0, h, _, _, _ => by omega
  | n + 1, h, h1, h2, h3 => by
    show sumN (fun i => b01 (q i)) n + b01 (q n) = sumN (fun i => b01 (p i)) n + b01 (p n) + 1
    by_cases e : x = n
    · subst e
      have := cnt_congr (p := q) (q := p) (n := x) (fun i hi => h3 i (by omega) (by omega))
      unfold cnt at this
      rw [this, h1, h2]; simp [b01]
    · have := cnt_add n (show x < n by omega) h1 h2 (fun i hi => h3 i (by omega))
      unfold cnt at this
      rw [this, h3 n (by omega) (by omega)]; omega
theorem cnt_lt {p q : Nat → Bool} {n x : Nat} (hx : x < n) (h : ∀ i, i < n → p i = true → q i = true) (h1 : p x = false) (h2 : q x = true) : cnt p n < cnt q n := by
  have e := cnt_add (p := fun i => if i = x then false else q i) (q := q) n hx (by simp) h2 (fun i hi hne => by simp [hne])
  have := cnt_mono (p := p) (q := fun i => if i = x then false else q i) (n := n) (fun i hi hp => by
    by_cases c : i = x
    · subst c; rw [h1] at hp; cases hp
    · simp [c]; exact h i hi hp)
  omega
theorem cnt_le (p : Nat → Bool) (n : Nat) : cnt p n ≤ n := by
  have := sumN_le (W := fun i => b01 (p i)) (V := fun _ => 1) n (fun i _ => b01_le _)
  rw [sumN_const] at this
  unfold cnt; omega
theorem cnt_none (n : Nat) : cnt (fun _ => false) n = 0 := by
  unfold cnt; rw [sumN_congr (V := fun _ => 0) n (fun i _ => by simp [b01]), sumN_const]; omega

/-- how many are ahead of x -/
def rk (K : Nat → Int) (n x : Nat) : Nat := cnt (fun j => decide (K j < K x ∨ (K j = K x ∧ j < x))) n
theorem rk_eq (K : Nat → Int) (n x : Nat) : rk K n x = cnt (fun j => decide (K j < K x ∨ (K j = K x ∧ j < x))) n := by
  rfl
/-- a set that whoever is in it brings all that are ahead -/
def Clo (K : Nat → Int) (n : Nat) (tk : Nat → Bool) : Prop := ∀ i j, i < n → j < n → tk j = true → ltK K i j → tk i = true
theorem rk_closed {K : Nat → Int} {n m : Nat} {tk : Nat → Bool} (h : Clo K n tk) (hc : cnt tk n = m) : ∀ j, j < n → (rk K n j < m ↔ tk j = true) := by
  intro j hj
  rw [rk_eq, ← hc]
  constructor
  · intro hlt
    cases ht : tk j
    · exfalso
      have := cnt_mono (p := tk) (q := fun i => decide (K i < K j ∨ (K i = K j ∧ i < j))) (n := n) (fun i hi hti => by
        rw [decide_eq_true_iff]
        have hne : i ≠ j := fun e => by rw [e, ht] at hti; cases hti
        have : ¬ ltK K j i := fun hl => by have := h j i hj hi hti hl; rw [ht] at this; cases this
        exact ltK_or this hne.symm)
      omega
    · rfl
  · intro ht
    refine cnt_lt hj (fun i hi hd => ?_) (by rw [decide_eq_false_iff_not]; omega) ht
    rw [decide_eq_true_iff] at hd
    exact h i j hi hj ht hd
theorem least {K : Nat → Int} (p : Nat → Bool) : ∀ n, (∃ x, x < n ∧ p x = true) → ∃ x, x < n ∧ p x = true ∧ ∀ y, y < n → p y = true → y = x ∨ ltK K x y
  | 0, ⟨x, h, _⟩ => by omega
  | n + 1, ⟨x, hx, hp⟩ => by
    by_cases h : ∃ x, x < n ∧ p x = true
    · obtain ⟨z, hz, hpz, hall⟩ := least p n h
      by_cases hn : p n = true ∧ ltK K n z
      · refine ⟨n, by omega, hn.1, fun y hy hpy => ?_⟩
        by_cases e : y = n
        · exact .inl e
        · rcases hall y (by omega) hpy with rfl | hl
          · exact .inr hn.2
          · exact .inr (ltK_trans hn.2 hl)
      · refine ⟨z, by omega, hpz, fun y hy hpy => ?_⟩
        by_cases e : y = n
        · subst e
          exact .inr (ltK_or (fun hl => hn ⟨hpy, hl⟩) (by omega))
        · exact hall y (by omega) hpy
    · have e : x = n := by
        apply Classical.byContradiction; intro hne
        exact h ⟨x, by omega, hp⟩
      subst e
      exact ⟨x, by omega, hp, fun y hy hpy => by
        by_cases e : y = x
        · exact .inl e
        · exact absurd ⟨y, by omega, hpy⟩ h⟩
theorem cnt_full {p : Nat → Bool} {n : Nat} (h : cnt p n < n) : ∃ x, x < n ∧ p x = false := by
  apply Classical.byContradiction
  intro hne
  have := cnt_mono (p := fun _ => true) (q := p) (n := n) (fun i hi _ => by
    cases hp : p i
    · exact absurd ⟨i, hi, hp⟩ hne
    · rfl)
  have e : cnt (fun _ => true) n = n := by unfold cnt; rw [sumN_congr (V := fun _ => 1) n (fun i _ => by simp [b01]), sumN_const]; omega
  omega
/-- the next one joins -/
theorem Clo.next {K : Nat → Int} {n x : Nat} {tk : Nat → Bool} (h : Clo K n tk) (hx : x < n) (hf : tk x = false) (hm : ∀ y, y < n → tk y = false → y = x ∨ ltK K x y) :
    Clo K n (fun i => decide (i = x) || tk i) ∧ cnt (fun i => decide (i = x) || tk i) n = cnt tk n + 1 := by
  refine ⟨fun i j hi hj ht hl => ?_, cnt_add n hx hf (by simp) (fun i hi hne => by simp [hne])⟩
  simp only [Bool.or_eq_true, decide_eq_true_iff] at ht ⊢
  cases hti : tk i
  · rcases hm i hi hti with e | e
    · exact .inl e
    · rcases ht with rfl | ht
      · exact absurd hl (fun hl => ltK_irr e hl)
      · exact .inr (by have := h i j hi hj ht hl; rw [hti] at this; cases this)
  · exact .inr rfl
theorem closed_any (K : Nat → Int) (n : Nat) : ∀ m, m ≤ n → ∃ tk, Clo K n tk ∧ cnt tk n = m
  | 0, _ => ⟨fun _ => false, (fun i j _ _ h _ => by cases h), cnt_none n⟩
  | m + 1, h => by
    obtain ⟨tk, h1, h2⟩ := closed_any K n m (by omega)
    obtain ⟨x0, hx0, hp0⟩ := cnt_full (p := tk) (n := n) (by omega)
    obtain ⟨x, hx, hp, hm⟩ := least (K := K) (fun i => !tk i) n ⟨x0, hx0, by simp [hp0]⟩
    obtain ⟨h3, h4⟩ := h1.next hx (by simpa using hp) (fun y hy hyt => hm y hy (by simp [hyt]))
    exact ⟨_, h3, by rw [h4, h2]⟩
theorem rk_lt {K : Nat → Int} {n x y : Nat} (hx : x < n) (h : ltK K x y) : rk K n x < rk K n y := by
  rw [rk_eq, rk_eq]
  refine cnt_lt hx (fun i hi hd => ?_) (by rw [decide_eq_false_iff_not]; omega) (by rw [decide_eq_true_iff]; exact h)
  rw [decide_eq_true_iff] at hd ⊢
  exact ltK_trans (x := i) (y := x) (z := y) hd h
/-- the ranks below m are m -/
theorem rk_cnt (K : Nat → Int) {n m : Nat} (h : m ≤ n) : cnt (fun i => decide (rk K n i < m)) n = m := by
  obtain ⟨tk, h1, h2⟩ := closed_any K n m h
  rw [← h2]
  refine cnt_congr fun i hi => ?_
  rw [Bool.eq_iff_iff, decide_eq_true_iff, h2]
  exact rk_closed h1 h2 i hi
theorem rk_congr {K K' : Nat → Int} {n : Nat} (h : ∀ i j, i < n → j < n → (ltK K i j ↔ ltK K' i j)) : ∀ x, x < n → rk K n x = rk K' n x := fun x hx => by
  rw [rk_eq, rk_eq]
  refine cnt_congr fun i hi => ?_
  rw [decide_eq_decide]
  exact h i x hi hx

/-- behind each weight: its floor, its rest; what is left over -/
def flo (W : Nat → Nat) (n T i : Nat) : Nat := T * W i / sumN W n
def res (W : Nat → Nat) (n T i : Nat) : Nat := T * W i % sumN W n
def lef (W : Nat → Nat) (n T : Nat) : Nat := T - sumN (flo W n T) n
def rkey (W : Nat → Nat) (n T : Nat) : Nat → Int := fun i => -(res W n T i : Int)
def prt (W : Nat → Nat) (n T i : Nat) : Nat := flo W n T i + b01 (decide (rk (rkey W n T) n i < lef W n T))
theorem prt_zero (W : Nat → Nat) (n i : Nat) : prt W n 0 i = 0 := by
  unfold prt lef flo
  simp [b01]
section
variable {W : Nat → Nat} {n T : Nat}
theorem flo_res (i : Nat) : flo W n T i * sumN W n + res W n T i = T * W i := by
  unfold flo res; rw [Nat.mul_comm]; exact Nat.div_add_mod _ _
theorem all_res : sumN (flo W n T) n * sumN W n + sumN (res W n T) n = T * sumN W n := by
  have h := sumN_add (fun i => flo W n T i * sumN W n) (res W n T) n
  rw [sumN_congr (V := fun i => T * W i) n (fun i _ => flo_res i), sumN_mul] at h
  rw [h, sumN_congr (W := fun i => flo W n T i * sumN W n) (V := fun i => sumN W n * flo W n T i) n (fun i _ => Nat.mul_comm _ _), sumN_mul, Nat.mul_comm]
theorem flo_sum (hS : 0 < sumN W n) : sumN (flo W n T) n ≤ T := by
  have := all_res (W := W) (n := n) (T := T)
  exact Nat.le_of_mul_le_mul_right (by omega) hS
theorem flo_part (hS : 0 < sumN W n) {k : Nat} (hk : k ≤ n) : sumN (flo W n T) k ≤ T := Nat.le_trans (sumN_mono _ n hk) (flo_sum hS)
theorem lef_res (hS : 0 < sumN W n) : lef W n T * sumN W n = sumN (res W n T) n := by
  have := all_res (W := W) (n := n) (T := T)
  unfold lef; rw [Nat.sub_mul]; omega
theorem res_lt (hS : 0 < sumN W n) (i : Nat) : res W n T i < sumN W n := Nat.mod_lt _ hS
theorem res_most (hS : 0 < sumN W n) : ∀ k, k ≤ n → sumN (res W n T) k ≤ cnt (fun i => decide (0 < res W n T i)) k * sumN W n
  | 0, _ => by simp [sumN]
  | k + 1, h => by
    have e : cnt (fun i => decide (0 < res W n T i)) (k + 1) = cnt (fun i => decide (0 < res W n T i)) k + b01 (decide (0 < res W n T k)) := rfl
    have e2 : sumN (res W n T) (k + 1) = sumN (res W n T) k + res W n T k := rfl
    rw [e, e2, Nat.add_mul]
    have := res_most hS k (by omega)
    have h2 := res_lt (T := T) hS k
    by_cases c : 0 < res W n T k
    · rw [decide_eq_true c, show b01 true = 1 from rfl, Nat.one_mul]; omega
    · rw [decide_eq_false c, show b01 false = 0 from rfl, Nat.zero_mul]; omega
theorem lef_pos (hS : 0 < sumN W n) : lef W n T ≤ cnt (fun i => decide (0 < res W n T i)) n := by
  have h := res_most (T := T) hS n (Nat.le_refl _)
  rw [← lef_res hS] at h
  exact Nat.le_of_mul_le_mul_right h hS
theorem lef_le (hS : 0 < sumN W n) : lef W n T ≤ n := Nat.le_trans (lef_pos hS) (cnt_le _ _)
theorem pos_clo : Clo (rkey W n T) n (fun i => decide (0 < res W n T i)) := fun i j hi hj ht hl => by
  rw [decide_eq_true_iff] at ht ⊢
  unfold ltK rkey at hl; omega
/-- who has one more has a rest -/
theorem more_rest (hS : 0 < sumN W n) {i : Nat} (hi : i < n) (h : rk (rkey W n T) n i < lef W n T) : 0 < res W n T i := by
  have := (rk_closed pos_clo rfl i hi).1 (Nat.lt_of_lt_of_le h (lef_pos hS))
  simpa using this
theorem W_le {i : Nat} (hi : i < n) : W i ≤ sumN W n := sumN_one W hi
theorem flo_le (hS : 0 < sumN W n) {i : Nat} (hi : i < n) : flo W n T i ≤ T := Nat.le_trans (sumN_one (flo W n T) hi) (flo_sum hS)
theorem prt_le (hS : 0 < sumN W n) {i : Nat} (hi : i < n) : prt W n T i ≤ T := by
  unfold prt
  by_cases h : rk (rkey W n T) n i < lef W n T
  · rw [decide_eq_true h]
    have h1 := more_rest hS hi h
    have h2 := flo_res (W := W) (n := n) (T := T) i
    have h3 : T * W i ≤ T * sumN W n := Nat.mul_le_mul_left _ (W_le hi)
    have h4 : flo W n T i * sumN W n < T * sumN W n := by omega
    have := Nat.lt_of_mul_lt_mul_right h4
    simp only [b01, if_true]; omega
  · rw [decide_eq_false h]; have := flo_le (T := T) hS hi; simp [b01]; omega
/-- the parts are the total -/
theorem prt_sum (hS : 0 < sumN W n) : sumN (prt W n T) n = T := by
  have h := sumN_add (flo W n T) (fun i => b01 (decide (rk (rkey W n T) n i < lef W n T))) n
  have e : sumN (prt W n T) n = sumN (fun i => flo W n T i + b01 (decide (rk (rkey W n T) n i < lef W n T))) n := rfl
  rw [e, h]
  have h2 := rk_cnt (rkey W n T) (lef_le (T := T) hS)
  unfold cnt at h2
  rw [h2]
  have := flo_sum (T := T) hS
  unfold lef; omega
/-- a weight of nothing has no part -/
theorem prt_none (hS : 0 < sumN W n) {i : Nat} (hi : i < n) (h : W i = 0) : prt W n T i = 0 := by
  have h1 : flo W n T i = 0 := by unfold flo; rw [h]; simp
  have h2 : res W n T i = 0 := by unfold res; rw [h]; simp
  unfold prt
  rw [h1, decide_eq_false (fun hr => by have := more_rest hS hi hr; omega)]
  rfl
/-- no part is more than its weight, if the total is not more than all -/
theorem prt_within (hS : 0 < sumN W n) {i : Nat} (hi : i < n) (h : T ≤ sumN W n) : prt W n T i ≤ W i := by
  have h2 := flo_res (W := W) (n := n) (T := T) i
  have h3 : T * W i ≤ sumN W n * W i := Nat.mul_le_mul_right _ h
  rw [Nat.mul_comm (sumN W n)] at h3
  unfold prt
  by_cases hr : rk (rkey W n T) n i < lef W n T
  · rw [decide_eq_true hr]
    have h1 := more_rest hS hi hr
    have := Nat.lt_of_mul_lt_mul_right (show flo W n T i * sumN W n < W i * sumN W n by omega)
    simp only [b01, if_true]; omega
  · rw [decide_eq_false hr]
    have := Nat.le_of_mul_le_mul_right (show flo W n T i * sumN W n ≤ W i * sumN W n by omega) hS
    simp [b01]; omega
/-- a greater weight has no smaller part -/
theorem prt_mono (hS : 0 < sumN W n) {i k : Nat} (hi : i < n) (hk : k < n) (h : W k < W i) : prt W n T k ≤ prt W n T i := by
  have h1 := flo_res (W := W) (n := n) (T := T) i
  have h2 := flo_res (W := W) (n := n) (T := T) k
  have h3 : T * W k ≤ T * W i := Nat.mul_le_mul_left _ (by omega)
  have hr := res_lt (T := T) hS i
  have hr2 := res_lt (T := T) hS k
  have hq : flo W n T k ≤ flo W n T i := Nat.div_le_div_right h3
  unfold prt
  have g1 := b01_le (decide (rk (rkey W n T) n k < lef W n T))
  by_cases e : flo W n T k < flo W n T i
  · omega
  · have e' : flo W n T k = flo W n T i := by omega
    by_cases hT : T = 0
    · subst hT
      have hz : ∀ j, res W n 0 j = 0 := fun j => by unfold res; simp
      rw [decide_eq_false (p := rk (rkey W n 0) n k < lef W n 0) (fun hr => by have := more_rest hS hk hr; rw [hz] at this; omega)]
      simp only [b01]; rw [e']; simp
    · have h4 : T * W k < T * W i := Nat.mul_lt_mul_of_pos_left h (by omega)
      rw [e'] at h2
      have hl : ltK (rkey W n T) i k := .inl (by unfold rkey; omega)
      have := rk_lt hi hl
      by_cases c : rk (rkey W n T) n k < lef W n T
      · rw [decide_eq_true c, decide_eq_true (show rk (rkey W n T) n i < lef W n T by omega)]; omega
      · rw [decide_eq_false c]; simp only [b01]; simp; omega
/-- of equal weights the earlier one has as much, or one more -/
theorem prt_same (hS : 0 < sumN W n) {i k : Nat} (hi : i < n) (hk : k < i) (h : W i = W k) : prt W n T i ≤ prt W n T k ∧ prt W n T k ≤ prt W n T i + 1 := by
  have e1 : flo W n T i = flo W n T k := by unfold flo; rw [h]
  have e2 : res W n T i = res W n T k := by unfold res; rw [h]
  have hl : ltK (rkey W n T) k i := .inr ⟨by unfold rkey; rw [e2], hk⟩
  have := rk_lt (n := n) (by omega) hl
  unfold prt
  have g1 := b01_le (decide (rk (rkey W n T) n k < lef W n T))
  have g2 := b01_le (decide (rk (rkey W n T) n i < lef W n T))
  rw [e1]
  by_cases c : rk (rkey W n T) n i < lef W n T
  · rw [decide_eq_true c, decide_eq_true (show rk (rkey W n T) n k < lef W n T by omega)]; omega
  · rw [decide_eq_false c]; simp only [b01] at *; simp at *; omega
/-- all weights, so many times -/
theorem prt_scale (c : Nat) (hc : 0 < c) (i : Nat) (hi : i < n) : prt (fun j => c * W j) n T i = prt W n T i := by
  have hS : sumN (fun j => c * W j) n = c * sumN W n := sumN_mul W c n
  have e1 : flo (fun j => c * W j) n T = flo W n T := by
    funext j; unfold flo; simp only; rw [hS, Nat.mul_left_comm]; exact Nat.mul_div_mul_left _ _ hc
  have e2 : ∀ j, res (fun j => c * W j) n T j = c * res W n T j := fun j => by
    unfold res; simp only; rw [hS, Nat.mul_left_comm]; exact Nat.mul_mod_mul_left _ _ _
  have e3 : lef (fun j => c * W j) n T = lef W n T := by unfold lef; rw [e1]
  unfold prt
  rw [e1, e3]
  congr 3
  rw [rk_congr (K := rkey (fun j => c * W j) n T) (K' := rkey W n T) (fun x y hx hy => ?_) i hi]
  unfold ltK rkey
  rw [e2, e2]
  have hc' : (0 : Int) < (c : Int) := by omega
  have m1 : (-((c * res W n T x : Nat) : Int) < -((c * res W n T y : Nat) : Int)) ↔ (-(res W n T x : Int) < -(res W n T y : Int)) := by
    constructor
    · intro h
      have : c * res W n T y < c * res W n T x := by omega
      have := Nat.lt_of_mul_lt_mul_left this
      omega
    · intro h
      have : c * res W n T y < c * res W n T x := Nat.mul_lt_mul_of_pos_left (by omega) hc
      omega
  have m2 : (-((c * res W n T x : Nat) : Int) = -((c * res W n T y : Nat) : Int)) ↔ (-(res W n T x : Int) = -(res W n T y : Int)) := by
    constructor
    · intro h
      have : c * res W n T x = c * res W n T y := by omega
      have := Nat.eq_of_mul_eq_mul_left hc this
      omega
    · intro h
      have : res W n T x = res W n T y := by omega
      rw [this]
  rw [m1, m2]
end
end Go.Proofs.Yticdcdahehodkaa
/-! fixnum's Add, Neg, MulDiv and math/bits' Div64 (where the high word is 0): plain readings. Conditions: the numbers fit their kinds. -/
namespace Go.Proofs.Yticdcdahehodkaa
set_option linter.unusedVariables false
set_option linter.unusedSimpArgs false
open Go.RowKit

theorem wrap64_F {x : Int} (h : F64 x) : wrap64 x = x := IntWalk.wrap64_in x h
theorem wrap64_over (x : Int) (h : 9223372036854775807 < x) (h2 : x < 27670116110564327424) : wrap64 x = x - 18446744073709551616 := by unfold wrap64; omega
theorem wrap64_under (x : Int) (h : x < -9223372036854775808) (h2 : -27670116110564327424 < x) : wrap64 x = x + 18446744073709551616 := by unfold wrap64; omega




/-- the plain operations of a region that draws -/
theorem u64_wrap_nat {n : Nat} (h : n < 18446744073709551616) : IntKind.u64.wrap (n : Int) = (n : Int) := by rw [IntKind.wrap_u64]; omega

set_option maxHeartbeats 400000 in
theorem div64_low (lo y : Nat) (w : World) (hl : lo < 18446744073709551616) (hy : 0 < y) (hy2 : y < 18446744073709551616) :
    Calls Try.prog 34 #[.int .u64 0, .int .u64 lo, .int .u64 y] w fun e w' => e = .returned (.tuple #[.int .u64 ((lo / y : Nat) : Int), .int .u64 ((lo % y : Nat) : Int)]) ∧ Below w.heap.size w w' := by
  have h0 : ((y : Int) == 0) = false := by simp; omega
  have h00 : ¬ (y : Int) = 0 := by omega
  have h1 : ¬ (y : Int) ≤ 0 := by omega
  have e1 : IntKind.u64.wrap ((lo : Int) / y) = ((lo / y : Nat) : Int) := by
    rw [show (lo : Int) / y = ((lo / y : Nat) : Int) from rfl]
    exact u64_wrap_nat (Nat.lt_of_le_of_lt (Nat.div_le_self lo y) hl)
  have E1 := Lib.hid e1
  clear e1
  go_enter Try.func34, Try.ntmps34
  go_wp2
  refine wp_region_below (by kernel_rfl) (by kernel_rfl) ?_
  repeat (first | ((with_reducible apply q_skip); (case hw => rfl); (try simp only [Act.put, List.setIfInBounds_toArray, List.set_cons_zero, List.set_cons_succ])) | ((with_reducible apply q_val); (case hw => rfl); (case hv => intro wq hbq; go_simp; try rfl); (try simp only [Act.put, List.setIfInBounds_toArray, List.set_cons_zero, List.set_cons_succ])))
  refine q_nil ?_
  intro w1 hb
  go_wp2
  go_ret2
  exact ⟨ret_ii E1.out rfl, hb⟩

/-! ### MulDiv where the product fits one word -/
/-- a number by its sign and its size -/
def sg (s : Bool) (x : Nat) : Int := if s then -(x : Int) else (x : Int)
/-- the quotient of sizes, rounded down, with the sign -/
def mdv (neg : Bool) (P z : Nat) : Int := if neg then (if P % z = 0 then -((P / z : Nat) : Int) else -((P / z : Nat) : Int) - 1) else ((P / z : Nat) : Int)

theorem size_sg (s : Bool) (x : Nat) (w : World) (hx : x < 9223372036854775808) (hs : s = true → 0 < x) :
    Calls Try.prog 30 #[.int .i64 (sg s x)] w fun e w' => e = .returned (.tuple #[.int .u64 (x : Int), .bool s]) ∧ w = w' := by
  cases s
  · exact size_pos _ w ⟨by simp [sg], by simp [sg]; omega⟩
  · have := size_neg (-(x : Int)) w ⟨by omega, by have := hs rfl; omega⟩
    rw [Int.neg_neg] at this
    exact this

theorem mul64_low (x y : Nat) (w : World) (hx : x < 18446744073709551616) (hy : y < 18446744073709551616) (h : x * y < 18446744073709551616) :
    Calls Try.prog 33 #[.int .u64 x, .int .u64 y] w fun e w' => e = .returned (.tuple #[.int .u64 0, .int .u64 ((x * y : Nat) : Int)]) ∧ w = w' := by
  refine (Try.bits_Mul64 x y hx hy w).mono ?_
  rintro e w' ⟨rfl, rfl⟩
  rw [Nat.div_eq_of_lt h, Nat.mod_eq_of_lt h]
  exact ⟨rfl, rfl⟩

end Go.Proofs.Yticdcdahehodkaa
/-! Knuth's two-digit division, in plain numbers. No condition beyond each theorem's own. -/
namespace Go.Proofs.Yticdcdahehodkaa.Dv
set_option linter.unusedVariables false
set_option linter.unusedSimpArgs false
/-- the quotient's digit that is sought -/
theorem too_big {un yn1 yn0 u0 q r : Nat} (h : q * yn1 + r = un) (hlt : 4294967296 * r + u0 < q * yn0) : un * 4294967296 + u0 < q * (yn1 * 4294967296 + yn0) := by
  have e : q * (yn1 * 4294967296 + yn0) = q * yn1 * 4294967296 + q * yn0 := by rw [Nat.mul_add, Nat.mul_assoc]
  rw [e, ← h]
  generalize q * yn1 = P at *
  generalize q * yn0 = Z at *
  omega
theorem fits {un yn1 yn0 u0 q r : Nat} (h : q * yn1 + r = un) (hle : q * yn0 ≤ 4294967296 * r + u0) : q * (yn1 * 4294967296 + yn0) ≤ un * 4294967296 + u0 := by
  have e : q * (yn1 * 4294967296 + yn0) = q * yn1 * 4294967296 + q * yn0 := by rw [Nat.mul_add, Nat.mul_assoc]
  rw [e, ← h]
  generalize q * yn1 = P at *
  generalize q * yn0 = Z at *
  omega
/-- the digit is below 2^32 -/
theorem digit_lt {un y u0 : Nat} (hun : un < y) (hu0 : u0 < 4294967296) : (un * 4294967296 + u0) / y < 4294967296 := by
  have hy : 0 < y := by omega
  rw [Nat.div_lt_iff_lt_mul hy]
  have : (un + 1) * 4294967296 ≤ y * 4294967296 := Nat.mul_le_mul_right _ hun
  rw [Nat.mul_comm 4294967296 y]
  omega
structure Inv (un yn1 yn0 u0 q r : Nat) : Prop where
  sum : q * yn1 + r = un
  ge : (un * 4294967296 + u0) / (yn1 * 4294967296 + yn0) ≤ q
theorem Inv.start {un yn1 yn0 u0 : Nat} (hy : 0 < yn1) (hu0 : u0 < 4294967296) : Inv un yn1 yn0 u0 (un / yn1) (un % yn1) := by
  refine ⟨by rw [Nat.mul_comm]; exact Nat.div_add_mod un yn1, ?_⟩
  have hy' : 0 < yn1 * 4294967296 + yn0 := by omega
  have h1 : un < (un / yn1 + 1) * yn1 := by have h := Nat.div_add_mod un yn1; have := Nat.mod_lt un hy; rw [Nat.add_mul, Nat.mul_comm]; omega
  refine Nat.le_of_lt_succ ?_
  show _ < un / yn1 + 1
  rw [Nat.div_lt_iff_lt_mul hy']
  have h2 : (un + 1) * 4294967296 ≤ (un / yn1 + 1) * yn1 * 4294967296 := Nat.mul_le_mul_right _ h1
  have e : (un / yn1 + 1) * (yn1 * 4294967296 + yn0) = (un / yn1 + 1) * yn1 * 4294967296 + (un / yn1 + 1) * yn0 := by rw [Nat.mul_add, Nat.mul_assoc]
  rw [e]
  generalize (un / yn1 + 1) * yn0 = Z
  omega
theorem Inv.down {un yn1 yn0 u0 q r : Nat} (h : Inv un yn1 yn0 u0 q r) (hun : un < yn1 * 4294967296 + yn0) (hu0 : u0 < 4294967296) (hc : 4294967296 ≤ q ∨ 4294967296 * r + u0 < q * yn0) :
    0 < q ∧ Inv un yn1 yn0 u0 (q - 1) (r + yn1) := by
  have hq : (un * 4294967296 + u0) / (yn1 * 4294967296 + yn0) < q := by
    rcases hc with hc | hc
    · exact Nat.lt_of_lt_of_le (digit_lt hun hu0) hc
    · rw [Nat.div_lt_iff_lt_mul (by omega)]
      exact too_big h.sum hc
  have hq0 : 0 < q := Nat.lt_of_le_of_lt (Nat.zero_le _) hq
  refine ⟨hq0, ?_, Nat.le_sub_one_of_lt hq⟩
  have : q = (q - 1) + 1 := by clear hq; omega
  have hs := h.sum
  rw [this, Nat.add_mul] at hs
  omega
theorem Inv.stop {un yn1 yn0 u0 q r : Nat} (h : Inv un yn1 yn0 u0 q r) (hyn0 : yn0 < 4294967296) (hun : un < yn1 * 4294967296 + yn0) (hc : 4294967296 ≤ r ∨ (q < 4294967296 ∧ q * yn0 ≤ 4294967296 * r + u0)) :
    q = (un * 4294967296 + u0) / (yn1 * 4294967296 + yn0) := by
  have hle : q * yn0 ≤ 4294967296 * r + u0 := by
    rcases hc with hc | ⟨_, hc⟩
    · have hs := h.sum
      have hq : q < 4294967296 := by
        rcases Nat.lt_or_ge q 4294967296 with h' | h'
        · exact h'
        · have := Nat.mul_le_mul_right yn1 h'
          rw [Nat.mul_comm 4294967296 yn1] at this
          omega
      have h1 : q * yn0 ≤ 4294967296 * 4294967296 := Nat.mul_le_mul (by omega) (by omega)
      omega
    · exact hc
  have h2 := fits h.sum hle
  have h3 : q ≤ (un * 4294967296 + u0) / (yn1 * 4294967296 + yn0) := by
    rw [Nat.le_div_iff_mul_le (by omega)]
    exact h2
  have := h.ge
  omega
/-- both digits together -/
theorem two {B N' un un1 un0 y : Nat} (hy : 0 < y) (hN : N' = (un * B + un1) * B + un0) :
    N' / y = (un * B + un1) / y * B + ((un * B + un1) % y * B + un0) / y ∧ N' % y = ((un * B + un1) % y * B + un0) % y := by
  generalize un * B + un1 = M at *
  have h1 := Nat.div_add_mod M y
  generalize M / y = q1 at *
  generalize M % y = r1 at *
  have e : N' = (r1 * B + un0) + y * (q1 * B) := by
    rw [hN, ← h1, Nat.add_mul, Nat.mul_assoc, Nat.add_comm (y * (q1 * B)), Nat.add_assoc, Nat.add_assoc, Nat.add_comm un0]
  rw [e, Nat.add_mul_div_left _ _ hy, Nat.add_mul_mod_self_left]
  exact ⟨Nat.add_comm _ _, rfl⟩
end Go.Proofs.Yticdcdahehodkaa.Dv
