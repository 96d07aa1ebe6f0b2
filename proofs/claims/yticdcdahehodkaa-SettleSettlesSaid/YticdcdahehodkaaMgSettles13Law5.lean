/- Texts that Settles13Law stands on, one behind the other, part 5. Conditions: each theorem names its own. -/
import Derived.Test.YticdcdahehodkaaMgSettles13Law4
import Derived.Deep.LoopGhost
/-! A stable sort by merging, plainly: permutations of a stretch, rotations, a merge of two sorted stretches. Nothing of the program is in it. -/
namespace Go.Proofs.Yticdcdahehodkaa
set_option linter.unusedVariables false
set_option linter.unusedSimpArgs false

/-- by the key; where keys tie, by number -/
def ltK (K : Nat → Int) (x y : Nat) : Prop := K x < K y ∨ (K x = K y ∧ x < y)
theorem ltK_trans {K : Nat → Int} {x y z : Nat} (h1 : ltK K x y) (h2 : ltK K y z) : ltK K x z := by unfold ltK at *; omega
theorem ltK_or {K : Nat → Int} {x y : Nat} (h : ¬ ltK K x y) (hne : x ≠ y) : ltK K y x := by unfold ltK at *; omega
theorem ltK_irr {K : Nat → Int} {x y : Nat} (h1 : ltK K x y) (h2 : ltK K y x) : False := by unfold ltK at *; omega
theorem ltK_ne {K : Nat → Int} {x y : Nat} (h1 : ltK K x y) : x ≠ y := by rintro rfl; unfold ltK at *; omega
theorem ltK_yes {K : Nat → Int} {x y : Nat} (h : x < y) (hk : K y < K x) : ltK K y x := .inl hk
theorem ltK_no {K : Nat → Int} {x y : Nat} (h : x < y) (hk : ¬ K y < K x) : ltK K x y := by unfold ltK; omega

def Srt (K : Nat → Int) (a b : Nat) (d : Nat → Nat) : Prop := ∀ i j, a ≤ i → i < j → j < b → ltK K (d i) (d j)
theorem Srt.sub {K : Nat → Int} {a b a' b' : Nat} {d : Nat → Nat} (h : Srt K a b d) (h1 : a ≤ a') (h2 : b' ≤ b) : Srt K a' b' d := fun i j hi hij hj => h i j (by omega) hij (by omega)
theorem Srt.congr {K : Nat → Int} {a b : Nat} {d d' : Nat → Nat} (h : Srt K a b d) (e : ∀ k, a ≤ k → k < b → d' k = d k) : Srt K a b d' := fun i j hi hij hj => by
  rw [e i hi (by omega), e j (by omega) hj]; exact h i j hi hij hj

/-- d' is d with the places from a on to b in another order -/
def PermOn (a b : Nat) (d d' : Nat → Nat) : Prop := ∃ σ τ : Nat → Nat, (∀ k, σ (τ k) = k) ∧ (∀ k, τ (σ k) = k) ∧ (∀ k, ¬ (a ≤ k ∧ k < b) → σ k = k) ∧ ∀ k, d' k = d (σ k)
theorem PermOn.refl (a b : Nat) (d : Nat → Nat) : PermOn a b d d := ⟨id, id, fun _ => rfl, fun _ => rfl, fun _ _ => rfl, fun _ => rfl⟩
theorem PermOn.trans {a b : Nat} {d d' d'' : Nat → Nat} (h1 : PermOn a b d d') (h2 : PermOn a b d' d'') : PermOn a b d d'' := by
  obtain ⟨s1, t1, a1, b1, c1, e1⟩ := h1
  obtain ⟨s2, t2, a2, b2, c2, e2⟩ := h2
  exact ⟨fun k => s1 (s2 k), fun k => t2 (t1 k), fun k => by simp only; rw [a2, a1], fun k => by simp only; rw [b1, b2], fun k hk => by simp only; rw [c2 k hk, c1 k hk], fun k => by rw [e2, e1]⟩
theorem PermOn.mono {a b a' b' : Nat} {d d' : Nat → Nat} (h : PermOn a b d d') (h1 : a' ≤ a) (h2 : b ≤ b') : PermOn a' b' d d' := by
  obtain ⟨s, t, h3, h4, h5, h6⟩ := h
  exact ⟨s, t, h3, h4, fun k hk => h5 k (by omega), h6⟩
theorem PermOn.out {a b k : Nat} {d d' : Nat → Nat} (h : PermOn a b d d') (hk : ¬ (a ≤ k ∧ k < b)) : d' k = d k := by
  obtain ⟨s, t, h3, h4, h5, h6⟩ := h
  rw [h6, h5 k hk]
theorem PermOn.inn {a b k : Nat} {d d' : Nat → Nat} (h : PermOn a b d d') (h1 : a ≤ k) (h2 : k < b) : ∃ i, a ≤ i ∧ i < b ∧ d' k = d i := by
  obtain ⟨s, t, h3, h4, h5, h6⟩ := h
  by_cases e : a ≤ s k ∧ s k < b
  · exact ⟨s k, e.1, e.2, h6 k⟩
  · have e1 := h5 _ e
    have e2 : s k = k := by have := congrArg t e1; rwa [h4, h4] at this
    exact absurd (by omega : a ≤ s k ∧ s k < b) e
theorem PermOn.symm {a b : Nat} {d d' : Nat → Nat} (h : PermOn a b d d') : PermOn a b d' d := by
  obtain ⟨s, t, h3, h4, h5, h6⟩ := h
  exact ⟨t, s, h4, h3, fun k hk => by have := h5 k hk; rw [← this, h4, this], fun k => by rw [h6, h3]⟩
/-- what holds of each from a on, and of a pair across, stays -/
theorem PermOn.all {a b : Nat} {d d' : Nat → Nat} (h : PermOn a b d d') {p : Nat → Prop} (hp : ∀ k, a ≤ k → k < b → p (d k)) : ∀ k, a ≤ k → k < b → p (d' k) := fun k h1 h2 => by
  obtain ⟨i, h3, h4, e⟩ := h.inn h1 h2
  rw [e]; exact hp i h3 h4

def swp (d : Nat → Nat) (i j : Nat) : Nat → Nat := fun k => if k = i then d j else if k = j then d i else d k
/-- what stood from m on to b comes ahead of what stood from a on to m -/
def rot (a m b : Nat) (d : Nat → Nat) : Nat → Nat := fun k => if k < a then d k else if k < a + (b - m) then d (k - a + m) else if k < b then d (k - (b - m)) else d k
theorem rot_perm {a m b : Nat} (d : Nat → Nat) (h1 : a ≤ m) (h2 : m ≤ b) : PermOn a b d (rot a m b d) := by
  refine ⟨rot a m b id, rot a (a + (b - m)) b id, fun k => ?_, fun k => ?_, fun k hk => ?_, fun k => ?_⟩
  · unfold rot; simp only [id]; repeat' split
    all_goals omega
  · unfold rot; simp only [id]; repeat' split
    all_goals omega
  · unfold rot; simp only [id]; repeat' split
    all_goals omega
  · unfold rot; simp only [id]; repeat' split
    all_goals first | rfl | omega
theorem rot_left (a b : Nat) (d : Nat → Nat) : rot a a b d = d := by
  funext k; unfold rot; repeat' split
  all_goals first | rfl | (congr 1; omega)
theorem rot_right (a b : Nat) (d : Nat → Nat) : rot a b b d = d := by
  funext k; unfold rot; repeat' split
  all_goals first | rfl | (exfalso; omega) | (congr 1; omega)
/-- one step down of what stood at i -/
theorem rot_down {i j : Nat} (d : Nat → Nat) (h1 : 0 < j) (h2 : j ≤ i) : swp (rot j i (i + 1) d) j (j - 1) = rot (j - 1) i (i + 1) d := by
  funext k; unfold swp rot; repeat' split
  all_goals first | rfl | (exfalso; omega) | (congr 1; omega)
/-- one step up of what stood at a -/
theorem rot_up {a k : Nat} (d : Nat → Nat) (h1 : a ≤ k) : swp (rot a (a + 1) (k + 1) d) k (k + 1) = rot a (a + 1) (k + 2) d := by
  funext i; unfold swp rot; repeat' split
  all_goals first | rfl | (exfalso; omega) | (congr 1; omega)

/-- two stretches of n change places -/
def swr (d : Nat → Nat) (a b n : Nat) : Nat → Nat := fun k => if k < a then d k else if k < a + n then d (k - a + b) else if k < b then d k else if k < b + n then d (k - b + a) else d k
theorem swr_zero (d : Nat → Nat) (a b : Nat) : swr d a b 0 = d := by
  funext k; unfold swr; repeat' split
  all_goals first | rfl | (exfalso; omega) | (congr 1; omega)
theorem swr_next {d : Nat → Nat} {a b n : Nat} (h : a + n < b) : swp (swr d a b n) (a + n) (b + n) = swr d a b (n + 1) := by
  funext k; unfold swp swr; repeat' split
  all_goals first | rfl | (exfalso; omega) | (congr 1; omega)
theorem rot_more {m i j : Nat} (d : Nat → Nat) (hi : i ≤ m) (h : j < i) : rot (m - i + j) m (m + j) (swr d (m - i) m j) = rot (m - i) m (m + j) d := by
  funext k; unfold rot swr; repeat' split
  all_goals first | rfl | (exfalso; omega) | (congr 1; omega)
theorem rot_less {m i j : Nat} (d : Nat → Nat) (hi : i ≤ m) (h : i < j) : rot (m - i) m (m + (j - i)) (swr d (m - i) (m + j - i) i) = rot (m - i) m (m + j) d := by
  funext k; unfold rot swr; repeat' split
  all_goals first | rfl | (exfalso; omega) | (congr 1; omega)
theorem rot_same {m i : Nat} (d : Nat → Nat) (hi : i ≤ m) : swr d (m - i) m i = rot (m - i) m (m + i) d := by
  funext k; unfold rot swr; repeat' split
  all_goals first | rfl | (exfalso; omega) | (congr 1; omega)

/-- the first one is put in its place -/
theorem merge_lo {K : Nat → Int} {d : Nat → Nat} {a b i : Nat} (hS : Srt K (a + 1) b d) (h1 : a + 1 ≤ i) (h2 : i ≤ b) (hl : ∀ k, a + 1 ≤ k → k < i → ltK K (d k) (d a)) (hr : ∀ k, i ≤ k → k < b → ltK K (d a) (d k)) : Srt K a b (rot a (a + 1) i d) := by
  intro x y hx hxy hy
  have e : ∀ k, a ≤ k → rot a (a + 1) i d k = if k + 1 < i then d (k + 1) else if k + 1 = i then d a else d k := fun k hk => by
    unfold rot; repeat' split
    all_goals first | rfl | (exfalso; omega) | (congr 1; omega)
  rw [e x hx, e y (by omega)]
  by_cases cx : x + 1 < i
  · rw [if_pos cx]
    by_cases cy : y + 1 < i
    · rw [if_pos cy]; exact hS _ _ (by omega) (by omega) (by omega)
    · rw [if_neg cy]
      by_cases cz : y + 1 = i
      · rw [if_pos cz]; exact hl _ (by omega) cx
      · rw [if_neg cz]; exact hS _ _ (by omega) (by omega) (by omega)
  · rw [if_neg cx, if_neg (show ¬ y + 1 < i by omega), if_neg (show ¬ y + 1 = i by omega)]
    by_cases cz : x + 1 = i
    · rw [if_pos cz]; exact hr _ (by omega) (by omega)
    · rw [if_neg cz]; exact hS _ _ (by omega) (by omega) (by omega)
/-- the last one is put in its place -/
theorem merge_hi {K : Nat → Int} {d : Nat → Nat} {a m i : Nat} (hS : Srt K a m d) (h1 : a ≤ i) (h2 : i ≤ m) (hl : ∀ k, a ≤ k → k < i → ltK K (d k) (d m)) (hr : ∀ k, i ≤ k → k < m → ltK K (d m) (d k)) : Srt K a (m + 1) (rot i m (m + 1) d) := by
  intro x y hx hxy hy
  have e : ∀ k, k ≤ m → rot i m (m + 1) d k = if k < i then d k else if k = i then d m else d (k - 1) := fun k hk => by
    unfold rot; repeat' split
    all_goals first | rfl | (exfalso; omega) | (congr 1; omega)
  rw [e x (by omega), e y (by omega)]
  by_cases cx : x < i
  · rw [if_pos cx]
    by_cases cy : y < i
    · rw [if_pos cy]; exact hS _ _ (by omega) (by omega) (by omega)
    · rw [if_neg cy]
      by_cases cz : y = i
      · rw [if_pos cz]; exact hl _ (by omega) cx
      · rw [if_neg cz]; exact hS _ _ (by omega) (by omega) (by omega)
  · rw [if_neg cx, if_neg (show ¬ y < i by omega), if_neg (show ¬ y = i by omega)]
    by_cases cz : x = i
    · rw [if_pos cz]; exact hr _ (by omega) (by omega)
    · rw [if_neg cz]; exact hS _ _ (by omega) (by omega) (by omega)

/-- all numbers from a on to m are below those from m on to b -/
def Low (a m b : Nat) (d : Nat → Nat) : Prop := ∀ x y, a ≤ x → x < m → m ≤ y → y < b → d x < d y
/-- behind the middle turn: both halves are to be merged, and each of the first is ahead of each of the second -/
structure Halves (K : Nat → Int) (a s mid e b : Nat) (d : Nat → Nat) : Prop where
  s1 : Srt K a s d
  s2 : Srt K s mid d
  s3 : Srt K mid e d
  s4 : Srt K e b d
  l1 : Low a s mid d
  l2 : Low mid e b d
  lt : ∀ x y, a ≤ x → x < mid → mid ≤ y → y < b → ltK K (d x) (d y)
theorem halves {K : Nat → Int} {d : Nat → Nat} {a m b s mid e : Nat} (hA : Srt K a m d) (hB : Srt K m b d) (hL : Low a m b d) (h1 : a ≤ s) (h2 : s ≤ m) (h3 : m ≤ e) (h4 : e ≤ b) (he : e + s = mid + m)
    (hp : s = a ∨ e = b ∨ ltK K (d (s - 1)) (d e)) (hq : s = m ∨ e = m ∨ ltK K (d (e - 1)) (d s)) : Halves K a s mid e b (rot s m e d) := by
  have ev : ∀ k, rot s m e d k = if k < s then d k else if k < mid then d (k - s + m) else if k < e then d (k - (e - m)) else d k := fun k => by
    unfold rot; repeat' split
    all_goals first | rfl | (exfalso; omega) | (congr 1; omega)
  have e1 : ∀ k, k < s → rot s m e d k = d k := fun k hk => by rw [ev, if_pos hk]
  have e2 : ∀ k, s ≤ k → k < mid → rot s m e d k = d (k - s + m) := fun k hk h => by rw [ev, if_neg (by omega), if_pos h]
  have e3 : ∀ k, mid ≤ k → k < e → rot s m e d k = d (k - (e - m)) := fun k hk h => by rw [ev, if_neg (by omega), if_neg (by omega), if_pos h]
  have e4 : ∀ k, e ≤ k → rot s m e d k = d k := fun k hk => by rw [ev, if_neg (by omega), if_neg (by omega), if_neg (by omega)]
  clear ev
  have lP : ∀ x y, a ≤ x → x < s → e ≤ y → y < b → ltK K (d x) (d y) := fun x y hx hx' hy hy' => by
    rcases hp with h | h | h
    · omega
    · omega
    · have g1 : x = s - 1 ∨ ltK K (d x) (d (s - 1)) := by
        by_cases c : x = s - 1
        · exact .inl c
        · exact .inr (hA _ _ hx (by omega) (by omega))
      have g2 : y = e ∨ ltK K (d e) (d y) := by
        by_cases c : y = e
        · exact .inl c
        · exact .inr (hB _ _ (by omega) (by omega) hy')
      rcases g1 with rfl | g1 <;> rcases g2 with rfl | g2
      · exact h
      · exact ltK_trans h g2
      · exact ltK_trans g1 h
      · exact ltK_trans g1 (ltK_trans h g2)
  have lQ : ∀ x y, m ≤ x → x < e → s ≤ y → y < m → ltK K (d x) (d y) := fun x y hx hx' hy hy' => by
    rcases hq with h | h | h
    · omega
    · omega
    · have g1 : x = e - 1 ∨ ltK K (d x) (d (e - 1)) := by
        by_cases c : x = e - 1
        · exact .inl c
        · exact .inr (hB _ _ (by omega) (by omega) (by omega))
      have g2 : y = s ∨ ltK K (d s) (d y) := by
        by_cases c : y = s
        · exact .inl c
        · exact .inr (hA _ _ (by omega) (by omega) hy')
      rcases g1 with rfl | g1 <;> rcases g2 with rfl | g2
      · exact h
      · exact ltK_trans h g2
      · exact ltK_trans g1 h
      · exact ltK_trans g1 (ltK_trans h g2)
  refine ⟨?_, ?_, ?_, ?_, ?_, ?_, ?_⟩
  · intro x y hx hxy hy; rw [e1 x (by omega), e1 y hy]; exact hA x y hx hxy (by omega)
  · intro x y hx hxy hy; rw [e2 x hx (by omega), e2 y (by omega) hy]; exact hB _ _ (by omega) (by omega) (by omega)
  · intro x y hx hxy hy; rw [e3 x hx (by omega), e3 y (by omega) hy]; exact hA _ _ (by omega) (by omega) (by omega)
  · intro x y hx hxy hy; rw [e4 x hx, e4 y (by omega)]; exact hB _ _ (by omega) (by omega) (by omega)
  · intro x y hx hx' hy hy'; rw [e1 x hx', e2 y hy hy']; exact hL _ _ (by omega) (by omega) (by omega) (by omega)
  · intro x y hx hx' hy hy'; rw [e3 x hx hx', e4 y hy]; exact hL _ _ (by omega) (by omega) (by omega) (by omega)
  · intro x y hx hx' hy hy'
    by_cases cx : x < s
    · rw [e1 x cx]
      by_cases cy : y < e
      · rw [e3 y hy cy]; exact hA _ _ hx (by omega) (by omega)
      · rw [e4 y (by omega)]; exact lP _ _ hx cx (by omega) hy'
    · rw [e2 x (by omega) hx']
      by_cases cy : y < e
      · rw [e3 y hy cy]; exact lQ _ _ (by omega) (by omega) (by omega) (by omega)
      · rw [e4 y (by omega)]; exact hB _ _ (by omega) (by omega) hy'
/-- both halves merged are the whole merged -/
theorem joined {K : Nat → Int} {d d2 d3 : Nat → Nat} {a mid b : Nat} (hl : ∀ x y, a ≤ x → x < mid → mid ≤ y → y < b → ltK K (d x) (d y)) (p1 : PermOn a mid d d2) (s1 : Srt K a mid d2) (p2 : PermOn mid b d2 d3) (s2 : Srt K mid b d3) : Srt K a b d3 := by
  intro x y hx hxy hy
  by_cases cy : y < mid
  · rw [p2.out (by omega), p2.out (by omega)]; exact s1 x y hx hxy cy
  · by_cases cx : x < mid
    · obtain ⟨i, i1, i2, e1⟩ := p1.inn hx cx
      obtain ⟨j, j1, j2, e2⟩ := p2.inn (show mid ≤ y by omega) hy
      rw [p2.out (by omega), e1, e2, p1.out (by omega)]
      exact hl i j i1 i2 j1 j2
    · exact s2 x y (by omega) hxy hy
theorem Low.perm {a m b : Nat} {d d' : Nat → Nat} (h : Low a m b d) (p1 : PermOn a m d d') : Low a m b d' := fun x y hx hx' hy hy' => by
  obtain ⟨i, i1, i2, e⟩ := p1.inn hx hx'
  rw [e, p1.out (by omega)]
  exact h i y i1 i2 hy hy'

/-- sorted by stretches of c: those below a by stretches of 2c already -/
structure Halfway (K : Nat → Int) (c n t : Nat) (d : Nat → Nat) : Prop where
  done : ∀ r, r < t → Srt K (r * (2 * c)) (r * (2 * c) + 2 * c) d
  left : ∀ r, 2 * t ≤ r → Srt K (r * c) (min (r * c + c) n) d
  fits : ∀ r k, 2 * t ≤ r → r * c ≤ k → k < r * c + c → k < n → r * c ≤ d k ∧ d k < r * c + c
  all : PermOn 0 n id d
  pairs : ∀ r k, r * (2 * c) ≤ k → k < r * (2 * c) + 2 * c → k < n → r * (2 * c) ≤ d k ∧ d k < r * (2 * c) + 2 * c
structure Blocks (K : Nat → Int) (c n : Nat) (d : Nat → Nat) : Prop where
  srt : ∀ r, Srt K (r * c) (min (r * c + c) n) d
  fits : ∀ r k, r * c ≤ k → k < r * c + c → k < n → r * c ≤ d k ∧ d k < r * c + c
  all : PermOn 0 n id d
theorem Blocks.half {K : Nat → Int} {c n : Nat} {d : Nat → Nat} (h : Blocks K c n d) : Halfway K c n 0 d where
  done := fun r hr => by omega
  left := fun r _ => h.srt r
  fits := fun r k _ => h.fits r k
  all := h.all
  pairs := fun r k h1 h2 h3 => by
    have e : r * (2 * c) = (2 * r) * c := by rw [Nat.mul_comm 2 r, Nat.mul_assoc]
    have e' : (2 * r + 1) * c = (2 * r) * c + c := by rw [Nat.add_mul, Nat.one_mul]
    rw [e] at h1 h2 ⊢
    by_cases cc : k < (2 * r) * c + c
    · have := h.fits (2 * r) k h1 cc h3; omega
    · have := h.fits (2 * r + 1) k (by omega) (by omega) h3; omega
theorem two_mul' (t c : Nat) : t * (2 * c) = (2 * t) * c ∧ (2 * t + 1) * c = (2 * t) * c + c ∧ (2 * (t + 1)) * c = (2 * t) * c + 2 * c ∧ (t + 1) * (2 * c) = (2 * t) * c + 2 * c := by
  have e : t * (2 * c) = (2 * t) * c := by rw [Nat.mul_comm 2 t, Nat.mul_assoc]
  have e1 : (2 * t + 1) * c = (2 * t) * c + c := by rw [Nat.add_mul, Nat.one_mul]
  have e2 : (t + 1) * (2 * c) = t * (2 * c) + 2 * c := by rw [Nat.add_mul, Nat.one_mul]
  have e3 : (t + 1) * (2 * c) = (2 * (t + 1)) * c := by rw [Nat.mul_comm 2 (t + 1), Nat.mul_assoc]
  omega
theorem later_mul {c r s : Nat} (h : s ≤ r) : s * c ≤ r * c := Nat.mul_le_mul_right c h
/-- what the next merge may ask -/
theorem Halfway.ask {K : Nat → Int} {c n t : Nat} {d : Nat → Nat} (h : Halfway K c n t d) (b : Nat) (hb : b ≤ n) (h1 : t * (2 * c) + c < b) (h2 : b ≤ t * (2 * c) + 2 * c) (hn : b = t * (2 * c) + 2 * c ∨ b = n) :
    Srt K (t * (2 * c)) (t * (2 * c) + c) d ∧ Srt K (t * (2 * c) + c) b d ∧ Low (t * (2 * c)) (t * (2 * c) + c) b d := by
  obtain ⟨e1, e2, e3, e4⟩ := two_mul' t c
  rw [e1] at h1 h2 hn ⊢
  refine ⟨(h.left (2 * t) (by omega)).sub (Nat.le_refl _) (by omega), ?_, ?_⟩
  · have := h.left (2 * t + 1) (by omega)
    rw [e2] at this
    exact this.sub (Nat.le_refl _) (by omega)
  · intro x y hx hx' hy hy'
    have g1 := h.fits (2 * t) x (by omega) hx hx' (by omega)
    have g2 := h.fits (2 * t + 1) y (by omega) (by omega) (by omega) (by omega)
    omega
theorem Halfway.next {K : Nat → Int} {c n t : Nat} {d d' : Nat → Nat} (h : Halfway K c n t d) (hb : t * (2 * c) + 2 * c ≤ n) (p : PermOn (t * (2 * c)) (t * (2 * c) + 2 * c) d d') (s : Srt K (t * (2 * c)) (t * (2 * c) + 2 * c) d') : Halfway K c n (t + 1) d' := by
  obtain ⟨e1, e2, e3, e4⟩ := two_mul' t c
  refine ⟨fun r hr => ?_, fun r hr => ?_, fun r k hr h1 h2 h3 => ?_, h.all.trans (p.mono (by omega) hb), fun r k h1 h2 h3 => ?_⟩
  · by_cases cr : r = t
    · subst cr; exact s
    · have l1 := later_mul (c := 2 * c) (show r + 1 ≤ t by omega)
      rw [Nat.add_mul, Nat.one_mul] at l1
      exact (h.done r (by omega)).congr (fun k _ hk => p.out (by omega))
  · have l1 := later_mul (c := c) hr
    exact (h.left r (by omega)).congr (fun k hk _ => p.out (by omega))
  · have l1 := later_mul (c := c) hr
    rw [p.out (by omega)]
    exact h.fits r k (by omega) h1 h2 h3
  · by_cases cr : r = t
    · subst cr
      obtain ⟨i, i1, i2, e⟩ := p.inn h1 h2
      rw [e]; exact h.pairs r i i1 i2 (by omega)
    · have l1 : r + 1 ≤ t ∨ t + 1 ≤ r := by omega
      have l2 : k < t * (2 * c) ∨ t * (2 * c) + 2 * c ≤ k := by
        rcases l1 with l1 | l1
        · have := later_mul (c := 2 * c) l1; rw [Nat.add_mul, Nat.one_mul] at this; omega
        · have := later_mul (c := 2 * c) l1; rw [Nat.add_mul, Nat.one_mul] at this; omega
      rw [p.out (by omega)]
      exact h.pairs r k h1 h2 h3
/-- the last stretch: merged, or alone -/
theorem Halfway.close {K : Nat → Int} {c n t : Nat} {d d' : Nat → Nat} (h : Halfway K c n t d) (hb : n < t * (2 * c) + 2 * c) (hp : (n ≤ t * (2 * c) + c ∧ d' = d) ∨ (PermOn (t * (2 * c)) n d d' ∧ Srt K (t * (2 * c)) n d')) : Blocks K (2 * c) n d' := by
  obtain ⟨e1, e2, e3, e4⟩ := two_mul' t c
  have p : PermOn (t * (2 * c)) n d d' := by
    rcases hp with ⟨_, rfl⟩ | ⟨hp, _⟩
    · exact .refl _ _ _
    · exact hp
  have s : Srt K (t * (2 * c)) n d' := by
    rcases hp with ⟨hn, rfl⟩ | ⟨_, hs⟩
    · have := h.left (2 * t) (by omega)
      rw [e1] at hn hb ⊢
      exact this.sub (Nat.le_refl _) (by omega)
    · exact hs
  refine ⟨fun r => ?_, fun r k h1 h2 h3 => ?_, h.all.trans (p.mono (by omega) (Nat.le_refl _))⟩
  · by_cases cr : r < t
    · have l1 := later_mul (c := 2 * c) (show r + 1 ≤ t by omega)
      rw [Nat.add_mul, Nat.one_mul] at l1
      exact ((h.done r cr).congr (fun k _ hk => p.out (by omega))).sub (Nat.le_refl _) (by omega)
    · have l1 := later_mul (c := 2 * c) (show t ≤ r by omega)
      exact s.sub l1 (by omega)
  · by_cases cr : k < t * (2 * c)
    · rw [p.out (by omega)]
      exact h.pairs r k h1 h2 h3
    · obtain ⟨i, i1, i2, e⟩ := p.inn (show t * (2 * c) ≤ k by omega) h3
      rw [e]
      have l0 : r = t := by
        apply Classical.byContradiction
        intro hne
        rcases (show r + 1 ≤ t ∨ t + 1 ≤ r by omega) with l1 | l1
        · have := later_mul (c := 2 * c) l1; rw [Nat.add_mul, Nat.one_mul] at this; omega
        · have := later_mul (c := 2 * c) l1; rw [Nat.add_mul, Nat.one_mul] at this; omega
      subst l0
      exact h.pairs r i i1 (by omega) i2
theorem Blocks.end {K : Nat → Int} {c n : Nat} {d : Nat → Nat} (h : Blocks K c n d) (hn : n ≤ c) : PermOn 0 n id d ∧ Srt K 0 n d :=
  ⟨h.all, by have := h.srt 0; rw [Nat.zero_mul, Nat.zero_add, Nat.min_eq_right hn] at this; exact this⟩

/-- the first a places sorted by stretches of c, the others as they were -/
structure Begun (K : Nat → Int) (c n t : Nat) (d : Nat → Nat) : Prop where
  done : ∀ r, r < t → Srt K (r * c) (r * c + c) d
  fits : ∀ r k, r < t → r * c ≤ k → k < r * c + c → r * c ≤ d k ∧ d k < r * c + c
  left : ∀ k, t * c ≤ k → d k = k
  all : PermOn 0 n id d
theorem begun {K : Nat → Int} (c n : Nat) : Begun K c n 0 id := ⟨fun r h => by omega, fun r k h => by omega, fun _ _ => rfl, .refl _ _ _⟩
theorem Begun.next {K : Nat → Int} {c n t : Nat} {d d' : Nat → Nat} (h : Begun K c n t d) (hb : t * c + c ≤ n) (p : PermOn (t * c) (t * c + c) d d') (s : Srt K (t * c) (t * c + c) d') : Begun K c n (t + 1) d' := by
  refine ⟨fun r hr => ?_, fun r k hr h1 h2 => ?_, fun k hk => ?_, h.all.trans (p.mono (by omega) hb)⟩
  · by_cases cr : r = t
    · subst cr; exact s
    · have l1 := later_mul (c := c) (show r + 1 ≤ t by omega)
      rw [Nat.add_mul, Nat.one_mul] at l1
      exact (h.done r (by omega)).congr (fun k _ hk => p.out (by omega))
  · by_cases cr : r = t
    · subst cr
      obtain ⟨i, i1, i2, e⟩ := p.inn h1 h2
      rw [e, h.left i i1]; exact ⟨i1, i2⟩
    · have l1 := later_mul (c := c) (show r + 1 ≤ t by omega)
      rw [Nat.add_mul, Nat.one_mul] at l1
      rw [p.out (by omega)]
      exact h.fits r k (by omega) h1 h2
  · rw [Nat.add_mul, Nat.one_mul] at hk
    rw [p.out (by omega)]; exact h.left k (by omega)
theorem Begun.close {K : Nat → Int} {c n t : Nat} {d d' : Nat → Nat} (h : Begun K c n t d) (hb : n < t * c + c) (hc : t * c ≤ n) (p : PermOn (t * c) n d d') (s : Srt K (t * c) n d') : Blocks K c n d' := by
  refine ⟨fun r => ?_, fun r k h1 h2 h3 => ?_, h.all.trans (p.mono (by omega) (Nat.le_refl _))⟩
  · by_cases cr : r < t
    · have l1 := later_mul (c := c) (show r + 1 ≤ t by omega)
      rw [Nat.add_mul, Nat.one_mul] at l1
      exact ((h.done r cr).congr (fun k _ hk => p.out (by omega))).sub (Nat.le_refl _) (by omega)
    · exact s.sub (later_mul (by omega)) (by omega)
  · by_cases cr : k < t * c
    · rw [p.out (by omega)]
      have l0 : r < t := by
        apply Classical.byContradiction
        intro hne
        have := later_mul (c := c) (show t ≤ r by omega)
        omega
      exact h.fits r k l0 h1 h2
    · obtain ⟨i, i1, i2, e⟩ := p.inn (show t * c ≤ k by omega) h3
      rw [e, h.left i i1]
      have l0 : r = t := by
        apply Classical.byContradiction
        intro hne
        rcases (show r + 1 ≤ t ∨ t + 1 ≤ r by omega) with l1 | l1
        · have := later_mul (c := c) l1; rw [Nat.add_mul, Nat.one_mul] at this; omega
        · have := later_mul (c := c) l1; rw [Nat.add_mul, Nat.one_mul] at this; omega
      subst l0
      omega
end Go.Proofs.Yticdcdahehodkaa
/-! slices' swapRangeCmpFunc and rotateCmpFunc at ints: what they make of a row in a block of its own. Condition: the places lie within the row. -/
namespace Go.Proofs.Yticdcdahehodkaa
set_option linter.unusedVariables false
set_option linter.unusedSimpArgs false
open Go.RowKit


/-- in w0's block blk stand, in place of the row, the numbers d 0 .. d (n-1); all else of w0 is as it was -/
structure RowI (w0 w : World) (blk n : Nat) (d : Nat → Nat) : Prop where
  fr : w0.grownBy w (some blk)
  row : ∃ A, w.heap[blk]? = some (.cells A 3 (0, 0)) ∧ n ≤ A.size ∧ ∀ k, k < n → A[k]? = some (.int .i64 (d k))
  lt : ∀ k, k < n → d k < n
  sz : n < 1000000000000
theorem RowI.cell {w0 w : World} {blk n : Nat} {d : Nat → Nat} (h : RowI w0 w blk n d) : ∀ k, k < n → w.cell? ⟨blk, k, none⟩ = some (.int .i64 (d k)) ∧ w.frozen? ⟨blk, k, none⟩ = false := fun k hk => by
  obtain ⟨A, h1, h2, h3⟩ := h.row
  obtain ⟨c, f, _⟩ := cells_of h1
  rw [c, f, h3 k hk]; exact ⟨rfl, rfl⟩
theorem RowI.drew {w0 w : World} {blk n : Nat} {d : Nat → Nat} (h : RowI w0 w blk n d) : RowI w0 w.drew blk n d := ⟨⟨h.fr.os, h.fr.tape, h.fr.output, h.fr.size, h.fr.block⟩, h.row, h.lt, h.sz⟩
theorem RowI.below {w0 w w' : World} {blk n : Nat} {d : Nat → Nat} (h : RowI w0 w blk n d) (hb : Below w.heap.size w w') : RowI w0 w' blk n d := by
  obtain ⟨A, h1, h2, h3⟩ := h.row
  exact ⟨h.fr.trans ⟨hb.os, hb.tape, hb.output, hb.size, fun k hk _ => hb.block k hk⟩, ⟨A, Yticdcdahehodkaa.kept hb h1, h2, h3⟩, h.lt, h.sz⟩
theorem RowI.swap {w0 w w' : World} {blk n p q : Nat} {d : Nat → Nat} (h : RowI w0 w blk n d) (hp : p < n) (hq : q < n)
    (hw : w' = (w.setCell ⟨blk, p, none⟩ (.int .i64 (d q))).setCell ⟨blk, q, none⟩ (.int .i64 (d p))) : RowI w0 w' blk n (swp d p q) := by
  subst hw
  obtain ⟨A, h1, h2, h3⟩ := h.row
  refine ⟨h.fr.trans ((set_grown _ _ _ _).trans (set_grown _ _ _ _)), ⟨_, heap_set (heap_set h1), by simpa using h2, fun k hk => ?_⟩, fun k hk => ?_, h.sz⟩
  · unfold swp
    by_cases e : k = q
    · subst e
      rw [Array.getElem?_setIfInBounds_self_of_lt (by simp; omega)]
      by_cases e2 : k = p
      · subst e2; rw [if_pos rfl]
      · rw [if_neg e2, if_pos rfl]
    · rw [Array.getElem?_setIfInBounds_ne (by omega), if_neg e]
      by_cases e2 : k = p
      · subst e2; rw [if_pos rfl, Array.getElem?_setIfInBounds_self_of_lt (by omega)]
      · rw [if_neg e2, Array.getElem?_setIfInBounds_ne (by omega)]; exact h3 k hk
  · unfold swp
    split
    · exact h.lt q hq
    · split
      · exact h.lt p hp
      · exact h.lt k hk
theorem RowI.congr {w0 w : World} {blk n : Nat} {d d' : Nat → Nat} (h : RowI w0 w blk n d) (e : d = d') : RowI w0 w blk n d' := e ▸ h
/-- the cells that an exchange reads and writes -/
theorem RowI.two {w0 w : World} {blk n p q : Nat} {d : Nat → Nat} (h : RowI w0 w blk n d) (hp : p < n) (hq : q < n) (v : Value) :
    (w.cell? ⟨blk, p, none⟩ = some (.int .i64 (d p)) ∧ w.cell? ⟨blk, q, none⟩ = some (.int .i64 (d q))) ∧ (w.frozen? ⟨blk, p, none⟩ = false ∧ w.frozen? ⟨blk, q, none⟩ = false) ∧
    ∃ u, (w.setCell ⟨blk, p, none⟩ v).cell? ⟨blk, q, none⟩ = some u := by
  obtain ⟨A, h1, h2, h3⟩ := h.row
  obtain ⟨c, f, _⟩ := cells_of h1
  obtain ⟨c2, _, _⟩ := cells_of (heap_set (i := p) (v := v) h1)
  refine ⟨⟨(h.cell p hp).1, (h.cell q hq).1⟩, ⟨f _, f _⟩, ?_⟩
  have : q < (A.setIfInBounds p v).size := by simp; omega
  exact ⟨_, (c2 q).trans (Array.getElem?_eq_getElem this)⟩
theorem wrapN {n : Nat} {z : Int} (hz : z = (n : Int)) (h : n < 2000000000000) : IntKind.i64.wrap z = (n : Int) := by rw [IntKind.wrap_i64]; omega

set_option maxHeartbeats 2000000 in
/-- two stretches of k numbers, from a on and from b on, change places -/
theorem swapr_any (blk n cap a b k : Nat) (d : Nat → Nat) (fv : Value) (w0 w : World) (hR : RowI w0 w blk n d) (hab : a + k ≤ b) (hb : b + k ≤ n) :
    Calls Try.prog 54 #[.slice (some ⟨blk, 0, none⟩) n cap, .int .i64 a, .int .i64 b, .int .i64 k, fv] w fun e w' => e = .returned (.tuple #[]) ∧ RowI w0 w' blk n (swr d a b k) := by
  have hsz := hR.sz
  have H0 := Lib.hid hR
  clear hR
  go_enter Try.func54, Try.ntmps54
  go_wp2
  go_loopg [10] k (fun gh vi wr => ∃ i : Nat, i ≤ k ∧ gh = k - i ∧ vi = .int .i64 i ∧ RowI w0 wr blk n (swr d a b i))
  case atStart => exact ⟨0, by omega, by omega, rfl, by rw [swr_zero]; exact H0.out⟩
  case round =>
    obtain ⟨i, hi, rfl, rfl, hRi⟩ := hrel
    by_cases hlt : i < k
    · obtain ⟨p, hp⟩ : ∃ p, p = a + i := ⟨_, rfl⟩
      obtain ⟨q, hq⟩ : ∃ q, q = b + i := ⟨_, rfl⟩
      have wp1 := wrapN (z := (a : Int) + (i : Int)) (n := p) (by omega) (by omega)
      have wq1 := wrapN (z := (b : Int) + (i : Int)) (n := q) (by omega) (by omega)
      have wi1 := wrapN (z := (i : Int) + 1) (n := i + 1) (by omega) (by omega)
      have hpn : (p : Int) < (n : Int) := by omega
      have hqn : (q : Int) < (n : Int) := by omega
      have hik : (i : Int) < (k : Int) := by omega
      obtain ⟨⟨c1, c2⟩, ⟨f1, f2⟩, u, c3⟩ := hRi.two (p := p) (q := q) (by omega) (by omega) (.int .i64 (swr d a b i q))
      have HR := Lib.hid hRi
      clear hRi
      have HS := Lib.hid (show swp (swr d a b i) p q = swr d a b (i + 1) by rw [hp, hq]; exact swr_next (by omega))
      have HPQ := Lib.hid (show p < n ∧ q < n by omega)
      clear hp hq
      generalize hd' : swr d a b i = d' at *
      clear hd'
      go_wp2
      go_region
      go_wp2
      go_roundg (k - (i + 1))
      case measure => omega
      case rel => exact ⟨i + 1, by omega, rfl, by go_num, (HR.out.swap HPQ.out.1 HPQ.out.2 rfl).drew.congr HS.out⟩
    · obtain rfl : i = k := by omega
      have HR := Lib.hid hRi
      clear hRi
      go_wp2
      (try simp only [Exit.inBlock, Exit.then]); first | go_end0 | refine bodyPost_ret (results_none rfl _ _ _) rfl ?_
      exact ⟨rfl, HR.out⟩

theorem swapr_at (blk n cap a b k : Nat) (za zb zk : Int) (d : Nat → Nat) (fv : Value) (w0 w : World) (ea : za = a) (eb : zb = b) (ek : zk = k) (hR : RowI w0 w blk n d) (hab : a + k ≤ b) (hb : b + k ≤ n) :
    Calls Try.prog 54 #[.slice (some ⟨blk, 0, none⟩) n cap, .int .i64 za, .int .i64 zb, .int .i64 zk, fv] w fun e w' => e = .returned (.tuple #[]) ∧ RowI w0 w' blk n (swr d a b k) := by
  subst ea; subst eb; subst ek; exact swapr_any blk n cap a b k d fv w0 w hR hab hb

set_option maxHeartbeats 2000000 in
/-- what stands from m on comes ahead of what stands from a on -/
theorem rotate_any (blk n cap a m b : Nat) (d : Nat → Nat) (fv : Value) (w0 w : World) (hR : RowI w0 w blk n d) (h1 : a < m) (h2 : m < b) (hb : b ≤ n) :
    Calls Try.prog 53 #[.slice (some ⟨blk, 0, none⟩) n cap, .int .i64 a, .int .i64 m, .int .i64 b, fv] w fun e w' => e = .returned (.tuple #[]) ∧ RowI w0 w' blk n (rot a m b d) := by
  have hsz := hR.sz
  have C := Lib.hid (fun (x y k : Nat) (dk : Nat → Nat) (wr : World) (zx zy zk : Int) => swapr_at blk n cap x y k zx zy zk dk fv w0 wr)
  have H0 := Lib.hid hR
  clear hR
  have hw0 := wrapN (z := (m : Int) - (a : Int)) (n := m - a) (by omega) (by omega)
  have hw1 := wrapN (z := (b : Int) - (m : Int)) (n := b - m) (by omega) (by omega)
  have HI := Lib.hid (show 0 < m - a ∧ m - a ≤ m ∧ 0 < b - m ∧ m + (b - m) ≤ n ∧ rot (m - (m - a)) m (m + (b - m)) d = rot a m b d from by
    refine ⟨by omega, by omega, by omega, by omega, ?_⟩
    rw [show m - (m - a) = a by omega, show m + (b - m) = b by omega])
  obtain ⟨i0, hi0⟩ : ∃ i0, i0 = m - a := ⟨_, rfl⟩
  obtain ⟨j0, hj0⟩ : ∃ j0, j0 = b - m := ⟨_, rfl⟩
  rw [← hi0] at hw0
  rw [← hj0] at hw1
  rw [← hi0, ← hj0] at HI
  have hmn : m ≤ n := by omega
  clear hi0 hj0 h1 h2 hb
  go_enter Try.func53, Try.ntmps53
  go_wp2
  go_loopg [10, 11] (i0 + j0) (fun gh vi vj wr => ∃ (i j : Nat) (dk : Nat → Nat), gh = i + j ∧ vi = .int .i64 i ∧ vj = .int .i64 j ∧ 0 < i ∧ i ≤ m ∧ 0 < j ∧ m + j ≤ n ∧ rot (m - i) m (m + j) dk = rot a m b d ∧ RowI w0 wr blk n dk)
  case atStart => obtain ⟨q1, q2, q3, q4, q5⟩ := HI.out; exact ⟨i0, j0, d, rfl, rfl, rfl, q1, q2, q3, q4, q5, H0.out⟩
  case round =>
    obtain ⟨i, j, dk, rfl, rfl, rfl, q1, q2, q3, q4, q5, hRk⟩ := hrel
    have HE := Lib.hid q5
    have HR := Lib.hid hRk
    clear q5 hRk HI H0
    rcases Nat.lt_trichotomy i j with h | rfl | h
    · have d1 : decide ((i : Int) = (j : Int)) = false := by rw [decide_eq_false_iff_not]; omega
      have d2 : decide ((j : Int) < (i : Int)) = false := by rw [decide_eq_false_iff_not]; omega
      have w1 := wrapN (z := (m : Int) - (i : Int)) (n := m - i) (by omega) (by omega)
      have w2 := wrapN (z := (m : Int) + (j : Int)) (n := m + j) (by omega) (by omega)
      have w3 := wrapN (z := ((m + j : Nat) : Int) - (i : Int)) (n := m + j - i) (by omega) (by omega)
      have w4 := wrapN (z := (j : Int) - (i : Int)) (n := j - i) (by omega) (by omega)
      have c := C.out (m - i) (m + j - i) i dk
      go_wp2_with (first | (go_at_call 54; (with_reducible refine (c _ _ _ _ (by omega) (by omega) (by omega) HR.out (by omega) (by omega)).mono ?_); rintro e wx ⟨rfl, hx⟩))
      go_roundg (i + (j - i))
      case measure => omega
      case rel => exact ⟨i, j - i, _, rfl, by go_num, by go_num, q1, q2, by omega, by omega, (rot_less dk q2 h).trans HE.out, hx⟩
    · have d1 : decide ((i : Int) = (i : Int)) = true := by rw [decide_eq_true_iff]
      have c := C.out (m - i) m i dk
      go_wp2_with (first | (go_at_call 54; (with_reducible refine (c _ _ _ _ (by omega) (by omega) (by omega) HR.out (by omega) (by omega)).mono ?_); rintro e wx ⟨rfl, hx⟩))
      (try simp only [Exit.inBlock, Exit.then]); first | go_end0 | refine bodyPost_ret (results_none rfl _ _ _) rfl ?_
      exact ⟨rfl, hx.congr ((rot_same dk q2).trans HE.out)⟩
    · have d1 : decide ((i : Int) = (j : Int)) = false := by rw [decide_eq_false_iff_not]; omega
      have d2 : decide ((j : Int) < (i : Int)) = true := by rw [decide_eq_true_iff]; omega
      have w4 := wrapN (z := (i : Int) - (j : Int)) (n := i - j) (by omega) (by omega)
      have c := C.out (m - i) m j dk
      go_wp2_with (first | (go_at_call 54; (with_reducible refine (c _ _ _ _ (by omega) (by omega) (by omega) HR.out (by omega) (by omega)).mono ?_); rintro e wx ⟨rfl, hx⟩))
      go_roundg (i - j + j)
      case measure => omega
      case rel =>
        have e := rot_more dk q2 h
        rw [show m - i + j = m - (i - j) by omega] at e
        exact ⟨i - j, j, _, rfl, by go_num, by go_num, by omega, by omega, q3, q4, e.trans HE.out, hx⟩
end Go.Proofs.Yticdcdahehodkaa
/-! slices' insertionSortCmpFunc at ints. Condition: cmp answers by a key, in every world where the row alone is another. -/
namespace Go.Proofs.Yticdcdahehodkaa
set_option linter.unusedVariables false
set_option linter.unusedSimpArgs false
open Go.RowKit

/-- called with two of the row's numbers, the function value hands back cf of them, and leaves old memory alone -/
def CmpAt (w0 : World) (blk n : Nat) (cf : Nat → Nat → Int) (cb : Value) : Prop := ∀ W, w0.grownBy W (some blk) → ∀ x y, x < n → y < n →
  Calls Try.prog 36 #[.int .i64 x, .int .i64 y, cb] W fun e w' => e = .returned (.int .i64 (cf x y)) ∧ Below W.heap.size W w'
theorem at_qcallv {P : Program} {ops : Array Oper} {C : World → Prop} {Q : Act → Prop} {rest : List Oper} {a : Act} {k : Tmp} {d : Option Tmp} {ags : Array Operand} {ts : Array TypeId} {ty : TypeId} {pos : String} {af : Array Edge} {gd : Option (Nat × Bool)}
    (h : WQ P ops C Q (⟨d, .call { callee := .value (.tmp k), args := ags, argTypes := ts }, ty, pos, af, gd⟩ :: rest) a) : WQ P ops C Q (⟨d, .call { callee := .value (.tmp k), args := ags, argTypes := ts }, ty, pos, af, gd⟩ :: rest) a := h
theorem CmpAt.q {w0 wr : World} {blk n : Nat} {cf : Nat → Nat → Int} {cb : Value} {d : Nat → Nat} (h : CmpAt w0 blk n cf cb) (hR : RowI w0 wr blk n d) (x y : Nat) (hx : x < n) (hy : y < n) :
    ∀ w, Below wr.heap.size wr w → Calls Try.prog 36 #[.int .i64 x, .int .i64 y, cb] w fun e w'' => e = .returned (.int .i64 (cf x y)) ∧ Below wr.heap.size wr w'' := fun w hb =>
  (h w (hR.below hb).fr x y hx hy).mono fun _ _ ⟨h1, h2⟩ => ⟨h1, below_then hb h2⟩
/-- the function value -/
def fvS (cb : Value) : Value := .func (.func 36) #[] #[cb]

theorem ins_end {K : Nat → Int} {a i j : Nat} {d : Nat → Nat} (hS : Srt K a i d) (h1 : a ≤ j) (h2 : j ≤ i) (hl : j = a ∨ ltK K (d (j - 1)) (d i)) (hr : ∀ k, j ≤ k → k < i → ltK K (d i) (d k)) :
    PermOn a (i + 1) d (rot j i (i + 1) d) ∧ Srt K a (i + 1) (rot j i (i + 1) d) := by
  refine ⟨(rot_perm d h2 (by omega)).mono h1 (Nat.le_refl _), merge_hi hS h1 h2 (fun k hk hk2 => ?_) hr⟩
  rcases hl with rfl | hl
  · omega
  · by_cases e : k = j - 1
    · subst e; exact hl
    · exact ltK_trans (hS k (j - 1) hk (by omega) (by omega)) hl

set_option maxHeartbeats 4000000 in
theorem insort_any (blk n cap a b : Nat) (d : Nat → Nat) (K : Nat → Int) (cf : Nat → Nat → Int) (cb : Value) (w0 w : World) (hcf : ∀ x y, cf x y < 0 ↔ K x < K y) (hC : CmpAt w0 blk n cf cb) (hR : RowI w0 w blk n d) (hab : a ≤ b) (hb : b ≤ n) (hd : ∀ k, a ≤ k → k < b → d k = k) :
    Calls Try.prog 51 #[.slice (some ⟨blk, 0, none⟩) n cap, .int .i64 a, .int .i64 b, fvS cb] w fun e w' => e = .returned (.tuple #[]) ∧ ∃ d', RowI w0 w' blk n d' ∧ PermOn a b d d' ∧ Srt K a b d' := by
  have hsz := hR.sz
  have H0 := Lib.hid hR
  have HC := Lib.hid hC
  have HD := Lib.hid hd
  have HCF := Lib.hid hcf
  clear hR hC hd hcf
  unfold fvS
  go_enter Try.func51, Try.ntmps51
  go_wp2
  go_loopg [8] (b - (a + 1)) (fun gh vi wr => ∃ (i : Nat) (di : Nat → Nat), vi = .int .i64 i ∧ a + 1 ≤ i ∧ gh = b - i ∧ (i ≤ b ∨ i = a + 1) ∧ PermOn a (min i b) d di ∧ Srt K a (min i b) di ∧ RowI w0 wr blk n di)
  case atStart => exact ⟨a + 1, d, by go_num, by omega, rfl, by omega, .refl _ _ _, fun x y hx hxy hy => by omega, H0.out⟩
  case round =>
    obtain ⟨i, di, rfl, hai, rfl, hib, hp, hs, hRi⟩ := hrel
    by_cases hlt : i < b
    · rw [Nat.min_eq_left (by omega)] at hp hs
      have hdi : di i = i := by rw [hp.out (by omega)]; exact HD.out i (by omega) hlt
      have HLT := Lib.hid (show ∀ k, a ≤ k → k < i → di k < di i from by
        rw [hdi]
        exact hp.all (p := fun x => x < i) (fun k h1 h2 => by rw [HD.out k h1 (by omega)]; exact h2))
      have HP := Lib.hid hp
      have HS := Lib.hid hs
      have HR := Lib.hid hRi
      clear hp hs hRi hdi H0
      have hin : i < n := by omega
      go_wp2
      go_loopg [9] (i - a) (fun g2 vj wr2 => ∃ j : Nat, vj = .int .i64 j ∧ a ≤ j ∧ j ≤ i ∧ g2 = j - a ∧ (∀ k, j ≤ k → k < i → ltK K (di i) (di k)) ∧ RowI w0 wr2 blk n (rot j i (i + 1) di))
      case atStart => exact ⟨i, rfl, by omega, Nat.le_refl _, rfl, fun k h1 h2 => by omega, HR.out.congr (rot_left i (i + 1) di).symm⟩
      case round =>
        obtain ⟨j, rfl, haj, hji, rfl, hr, hRj⟩ := hrel
        have HRR := Lib.hid hr
        have HRJ := Lib.hid hRj
        clear hr hRj HR
        have OUT := Lib.hid (fun (wx : World) (hx : RowI w0 wx blk n (rot j i (i + 1) di)) (hl : j = a ∨ ltK K (di (j - 1)) (di i)) => show ∃ di', RowI w0 wx blk n di' ∧ PermOn a (min (i + 1) b) d di' ∧ Srt K a (min (i + 1) b) di' from by
          rw [Nat.min_eq_left (by omega)]
          obtain ⟨e1, e2⟩ := ins_end HS.out haj hji hl HRR.out
          exact ⟨_, hx, (HP.out.mono (Nat.le_refl _) (by omega)).trans e1, e2⟩)
        by_cases hja : a < j
        · obtain ⟨q, hq⟩ : ∃ q, q = j - 1 := ⟨_, rfl⟩
          have zq := wrapN (z := (j : Int) - 1) (n := q) (by omega) (by omega)
          have hjn : (j : Int) < (n : Int) := by omega
          have hqn : (q : Int) < (n : Int) := by omega
          obtain ⟨dj, hdj⟩ : ∃ dj, dj = rot j i (i + 1) di := ⟨_, rfl⟩
          obtain ⟨x, hx⟩ : ∃ x, x = dj j := ⟨_, rfl⟩
          obtain ⟨y, hy⟩ : ∃ y, y = dj q := ⟨_, rfl⟩
          have exi : x = di i := by
            rw [hx, hdj]; unfold rot; repeat' split
            all_goals first | rfl | (exfalso; omega) | (congr 1; omega)
          have eyi : y = di (j - 1) := by
            rw [hy, hdj, hq]; unfold rot; repeat' split
            all_goals first | rfl | (exfalso; omega) | (congr 1; omega)
          have HRD := Lib.hid (hdj ▸ HRJ.out : RowI w0 wr blk n dj)
          have HX := Lib.hid (show ∀ wq, Below wr.heap.size wr wq → wq.cell? ⟨blk, j, none⟩ = some (.int .i64 x) from fun wq hb => by rw [hx]; exact ((HRD.out.below hb).cell j (by omega)).1)
          have HY := Lib.hid (show ∀ wq, Below wr.heap.size wr wq → wq.cell? ⟨blk, q, none⟩ = some (.int .i64 y) from fun wq hb => by rw [hy]; exact ((HRD.out.below hb).cell q (by omega)).1)
          have HCQ := Lib.hid (HC.out.q HRD.out x y (by rw [hx]; exact HRD.out.lt _ (by omega)) (by rw [hy]; exact HRD.out.lt _ (by omega)))
          have hlt' : y < x := by rw [exi, eyi]; exact HLT.out _ (by omega) (by omega)
          have HDJ := Lib.hid hdj
          have HXY := Lib.hid (show x = dj j ∧ y = dj q ∧ x = di i ∧ y = di (j - 1) ∧ q = j - 1 ∧ y < x from ⟨hx, hy, exi, eyi, hq, hlt'⟩)
          clear hdj hx hy exi eyi hq hlt'
          by_cases hk : cf x y < 0
          · go_wp2
            refine wp_region_below (by kernel_rfl) (by kernel_rfl) ?_
            repeat (first | ((with_reducible apply q_skip); (case hw => rfl); (try simp only [Act.put, List.setIfInBounds_toArray, List.set_cons_zero, List.set_cons_succ])) | ((with_reducible refine at_qcallv ?_); refine q_call (.int .i64 (cf x y)) 36 #[.int .i64 x, .int .i64 y, cb] (by rfl) (fun wq hq => by go_simp) HCQ.out ?_; (try simp only [Act.put, List.setIfInBounds_toArray, List.set_cons_zero, List.set_cons_succ])) | ((with_reducible apply q_val); (case hw => rfl); (case hv => intro wq hbq; have hcx := HX.out wq hbq; have hcy := HY.out wq hbq; go_simp; try rfl); (try simp only [Act.put, List.setIfInBounds_toArray, List.set_cons_zero, List.set_cons_succ])))
            refine q_nil ?_
            intro w4 hb4
            have HR4 := Lib.hid (HRD.out.below hb4)
            obtain ⟨⟨c1, c2⟩, ⟨f1, f2⟩, u, c3⟩ := HR4.out.two (p := j) (q := q) (by omega) (by omega) (.int .i64 (dj q))
            go_wp2
            go_region
            go_wp2
            go_roundg (j - 1 - a)
            case measure => omega
            case rel =>
              obtain ⟨x1, x2, x3, x4, x5, x6⟩ := HXY.out
              subst x5
              refine ⟨j - 1, by go_num, by omega, by omega, rfl, fun k h1 h2 => ?_, ((HR4.out.swap (by omega) (by omega) rfl).drew.congr ?_)⟩
              · by_cases e : k = j - 1
                · subst e; rw [← x3, ← x4]; exact .inl ((HCF.out _ _).1 hk)
                · exact HRR.out k (by omega) h2
              · rw [HDJ.out]; exact rot_down di (by omega) hji
          · go_wp2
            refine wp_region_below (by kernel_rfl) (by kernel_rfl) ?_
            repeat (first | ((with_reducible apply q_skip); (case hw => rfl); (try simp only [Act.put, List.setIfInBounds_toArray, List.set_cons_zero, List.set_cons_succ])) | ((with_reducible refine at_qcallv ?_); refine q_call (.int .i64 (cf x y)) 36 #[.int .i64 x, .int .i64 y, cb] (by rfl) (fun wq hq => by go_simp) HCQ.out ?_; (try simp only [Act.put, List.setIfInBounds_toArray, List.set_cons_zero, List.set_cons_succ])) | ((with_reducible apply q_val); (case hw => rfl); (case hv => intro wq hbq; have hcx := HX.out wq hbq; have hcy := HY.out wq hbq; go_simp; try rfl); (try simp only [Act.put, List.setIfInBounds_toArray, List.set_cons_zero, List.set_cons_succ])))
            refine q_nil ?_
            intro w4 hb4
            obtain ⟨di', e1, e2, e3⟩ := OUT.out w4 ((HRD.out.below hb4).congr HDJ.out) (.inr (by
              obtain ⟨x1, x2, x3, x4, x5, x6⟩ := HXY.out
              rw [← x3, ← x4]; exact ltK_no x6 (fun h => by have := (HCF.out _ _).2 h; omega)))
            go_wp2
            go_roundg (b - (i + 1))
            case measure => omega
            case rel => exact ⟨i + 1, di', by go_num, by omega, rfl, by omega, e2, e3, e1⟩
        · obtain ⟨di', e1, e2, e3⟩ := OUT.out wr HRJ.out (.inl (by omega))
          have hja' : j = a := by omega
          clear HRJ OUT HRR
          subst hja'
          go_wp2
          refine wp_region_below (by kernel_rfl) (by kernel_rfl) ?_
          repeat (first | ((with_reducible apply q_skip); (case hw => rfl); (try simp only [Act.put, List.setIfInBounds_toArray, List.set_cons_zero, List.set_cons_succ])) | ((with_reducible apply q_val); (case hw => rfl); (case hv => intro wq hbq; go_simp; try rfl); (try simp only [Act.put, List.setIfInBounds_toArray, List.set_cons_zero, List.set_cons_succ])))
          refine q_nil ?_
          intro w4 hb4
          have HR4 := Lib.hid (e1.below hb4)
          clear e1
          go_wp2
          go_roundg (b - (i + 1))
          case measure => omega
          case rel => exact ⟨i + 1, di', by go_num, by omega, rfl, by omega, e2, e3, HR4.out⟩
    · rw [Nat.min_eq_right (by omega)] at hp hs
      have HP := Lib.hid hp
      have HS := Lib.hid hs
      have HR := Lib.hid hRi
      clear hp hs hRi
      go_wp2
      (try simp only [Exit.inBlock, Exit.then]); first | go_end0 | refine bodyPost_ret (results_none rfl _ _ _) rfl ?_
      exact ⟨rfl, di, HR.out, HP.out, HS.out⟩
end Go.Proofs.Yticdcdahehodkaa
/-! slices' symMergeCmpFunc at ints, where one side has one number alone. Condition: as at the insertion sort. -/
namespace Go.Proofs.Yticdcdahehodkaa
set_option linter.unusedVariables false
set_option linter.unusedSimpArgs false
open Go.RowKit

theorem half_lt {i j : Nat} (h : i < j) : i ≤ (i + j) / 2 ∧ (i + j) / 2 < j := by omega
set_option maxRecDepth 100000 in
set_option maxHeartbeats 16000000 in
theorem symm_lo (blk n cap a b : Nat) (d : Nat → Nat) (K : Nat → Int) (cf : Nat → Nat → Int) (cb : Value) (w0 w : World) (hcf : ∀ x y, cf x y < 0 ↔ K x < K y) (hC : CmpAt w0 blk n cf cb) (hR : RowI w0 w blk n d)
    (hab : a + 1 < b) (hb : b ≤ n) (hs : Srt K (a + 1) b d) (hl : Low a (a + 1) b d) :
    Calls Try.prog 52 #[.slice (some ⟨blk, 0, none⟩) n cap, .int .i64 a, .int .i64 ((a + 1 : Nat) : Int), .int .i64 b, fvS cb] w fun e w' => e = .returned (.tuple #[]) ∧ ∃ d', RowI w0 w' blk n d' ∧ PermOn a b d d' ∧ Srt K a b d' := by
  have hsz := hR.sz
  have H0 := Lib.hid hR
  have HC := Lib.hid hC
  have HS := Lib.hid hs
  have HL := Lib.hid hl
  have HCF := Lib.hid hcf
  clear hR hC hs hl hcf
  obtain ⟨m, hm⟩ : ∃ m, m = a + 1 := ⟨_, rfl⟩
  rw [← hm]
  have wm := wrapN (z := (m : Int) - (a : Int)) (n := 1) (by omega) (by omega)
  have HM := Lib.hid hm
  have hmb : m < b := by omega
  have ham : a < m := by omega
  clear hm hab
  unfold fvS
  go_enter Try.func52, Try.ntmps52
  go_wp2
  go_loopg [10, 11] (b - m) (fun gh vi vj wr => ∃ i j : Nat, vi = .int .i64 i ∧ vj = .int .i64 j ∧ m ≤ i ∧ i ≤ j ∧ j ≤ b ∧ gh = j - i ∧ (∀ k, m ≤ k → k < i → ltK K (d k) (d a)) ∧ (∀ k, j ≤ k → k < b → ltK K (d a) (d k)) ∧ RowI w0 wr blk n d)
  case atStart => exact ⟨m, b, rfl, rfl, Nat.le_refl _, by omega, Nat.le_refl _, rfl, fun k h1 h2 => by omega, fun k h1 h2 => by omega, H0.out⟩
  case round =>
    clear H0
    obtain ⟨i, j, rfl, rfl, hi, hij, hj, rfl, hll, hrr, hRi⟩ := hrel
    have HLL := Lib.hid hll
    have HRR := Lib.hid hrr
    have HRI := Lib.hid hRi
    clear hll hrr hRi
    by_cases hlt : i < j
    · obtain ⟨h, hh⟩ : ∃ h, h = (i + j) / 2 := ⟨_, rfl⟩
      have hh2 := half_lt hlt
      rw [← hh] at hh2
      have hz : ((i : Int) + (j : Int)) / 2 = (h : Int) := by omega
      clear hh
      obtain ⟨x, hx⟩ : ∃ x, x = d h := ⟨_, rfl⟩
      obtain ⟨y, hy⟩ : ∃ y, y = d a := ⟨_, rfl⟩
      have hhn : (h : Int) < (n : Int) := by omega
      have han : (a : Int) < (n : Int) := by omega
      have HX := Lib.hid (show ∀ wq, Below wr.heap.size wr wq → wq.cell? ⟨blk, h, none⟩ = some (.int .i64 x) from fun wq hb => by rw [hx]; exact ((HRI.out.below hb).cell h (by omega)).1)
      have HY := Lib.hid (show ∀ wq, Below wr.heap.size wr wq → wq.cell? ⟨blk, a, none⟩ = some (.int .i64 y) from fun wq hb => by rw [hy]; exact ((HRI.out.below hb).cell a (by omega)).1)
      have HCQ := Lib.hid (HC.out.q HRI.out x y (by rw [hx]; exact HRI.out.lt _ (by omega)) (by rw [hy]; exact HRI.out.lt _ (by omega)))
      have hlo : d a < d h := HL.out a h (Nat.le_refl _) (by omega) (by rw [← HM.out]; omega) (by omega)
      have HXY := Lib.hid (show x = d h ∧ y = d a ∧ y < x from ⟨hx, hy, by rw [hx, hy]; exact hlo⟩)
      clear hx hy hlo
      by_cases hk : cf x y < 0
      · go_wp2
        refine wp_region_below (by kernel_rfl) (by kernel_rfl) ?_
        repeat (first | ((with_reducible apply q_skip); (case hw => rfl); (try simp only [Act.put, List.setIfInBounds_toArray, List.set_cons_zero, List.set_cons_succ])) | ((with_reducible refine at_qcallv ?_); refine q_call (.int .i64 (cf x y)) 36 #[.int .i64 x, .int .i64 y, cb] (by rfl) (fun wq hq => by go_simp) HCQ.out ?_; (try simp only [Act.put, List.setIfInBounds_toArray, List.set_cons_zero, List.set_cons_succ])) | ((with_reducible apply q_val); (case hw => rfl); (case hv => intro wq hbq; have hcx := HX.out wq hbq; have hcy := HY.out wq hbq; go_simp; try rfl); (try simp only [Act.put, List.setIfInBounds_toArray, List.set_cons_zero, List.set_cons_succ])))
        refine q_nil ?_
        intro w4 hb4
        have wh1 := wrapN (z := (h : Int) + 1) (n := h + 1) (by omega) (by omega)
        go_wp2
        go_roundg (j - (h + 1))
        case measure => omega
        case rel =>
          obtain ⟨x1, x2, x3⟩ := HXY.out
          refine ⟨h + 1, j, by go_num, rfl, by omega, by omega, hj, rfl, fun k h1 h2 => ?_, HRR.out, HRI.out.below hb4⟩
          have hk' : ltK K (d h) (d a) := by rw [← x1, ← x2]; exact .inl ((HCF.out _ _).1 hk)
          by_cases e : k = h
          · subst e; exact hk'
          · exact ltK_trans (HS.out k h (by rw [← HM.out]; omega) (by omega) (by omega)) hk'
      · go_wp2
        refine wp_region_below (by kernel_rfl) (by kernel_rfl) ?_
        repeat (first | ((with_reducible apply q_skip); (case hw => rfl); (try simp only [Act.put, List.setIfInBounds_toArray, List.set_cons_zero, List.set_cons_succ])) | ((with_reducible refine at_qcallv ?_); refine q_call (.int .i64 (cf x y)) 36 #[.int .i64 x, .int .i64 y, cb] (by rfl) (fun wq hq => by go_simp) HCQ.out ?_; (try simp only [Act.put, List.setIfInBounds_toArray, List.set_cons_zero, List.set_cons_succ])) | ((with_reducible apply q_val); (case hw => rfl); (case hv => intro wq hbq; have hcx := HX.out wq hbq; have hcy := HY.out wq hbq; go_simp; try rfl); (try simp only [Act.put, List.setIfInBounds_toArray, List.set_cons_zero, List.set_cons_succ])))
        refine q_nil ?_
        intro w4 hb4
        go_wp2
        go_roundg (h - i)
        case measure => omega
        case rel =>
          obtain ⟨x1, x2, x3⟩ := HXY.out
          refine ⟨i, h, rfl, rfl, hi, by omega, by omega, rfl, HLL.out, fun k h1 h2 => ?_, HRI.out.below hb4⟩
          have hk' : ltK K (d a) (d h) := by rw [← x1, ← x2]; exact ltK_no x3 (fun h => by have := (HCF.out _ _).2 h; omega)
          by_cases e : k = h
          · subst e; exact hk'
          · exact ltK_trans hk' (HS.out h k (by rw [← HM.out]; omega) (by omega) (by omega))
    · obtain rfl : i = j := by omega
      have END := Lib.hid (show PermOn a b d (rot a m i d) ∧ Srt K a b (rot a m i d) from by
        have hm := HM.out
        subst hm
        exact ⟨(rot_perm d (by omega) (by omega)).mono (Nat.le_refl _) hj, merge_lo HS.out hi hj HLL.out HRR.out⟩)
      clear HLL HRR HC HS HL HCF
      have wi := wrapN (z := (i : Int) - 1) (n := i - 1) (by omega) (by omega)
      go_wp2
      go_loopg [13] (i - 1 - a) (fun gh vk wr => ∃ k : Nat, vk = .int .i64 k ∧ a ≤ k ∧ k + 1 ≤ i ∧ gh = i - 1 - k ∧ RowI w0 wr blk n (rot a m (k + 1) d))
      case atStart => exact ⟨a, rfl, Nat.le_refl _, by omega, rfl, HRI.out.congr (by rw [HM.out]; exact (rot_right a (a + 1) d).symm)⟩
      case round =>
        clear HRI
        obtain ⟨k, rfl, h1, h2, rfl, hRk⟩ := hrel
        have HRK := Lib.hid hRk
        clear hRk
        by_cases hlt2 : k < i - 1
        · obtain ⟨q, hq⟩ : ∃ q, q = k + 1 := ⟨_, rfl⟩
          obtain ⟨dj, hdj⟩ : ∃ dj, dj = rot a m (k + 1) d := ⟨_, rfl⟩
          have HRD := Lib.hid (hdj ▸ HRK.out : RowI w0 wr blk n dj)
          have wk := wrapN (z := (k : Int) + 1) (n := q) (by omega) (by omega)
          have hkn : (k : Int) < (n : Int) := by omega
          have hqn : (q : Int) < (n : Int) := by omega
          have hki : (k : Int) < (i : Int) - 1 := by omega
          obtain ⟨⟨c1, c2⟩, ⟨f1, f2⟩, u, c3⟩ := HRD.out.two (p := k) (q := q) (by omega) (by omega) (.int .i64 (dj q))
          have HDJ := Lib.hid hdj
          have HQ := Lib.hid hq
          clear hdj hq HRK
          go_wp2
          go_region
          go_wp2
          go_roundg (i - 1 - q)
          case measure => have := HQ.out; omega
          case rel =>
            have hq := HQ.out
            refine ⟨q, by go_num, by omega, by omega, rfl, ((HRD.out.swap (by omega) (by omega) rfl).drew.congr ?_)⟩
            rw [HDJ.out, HM.out, hq]; exact rot_up d h1
        · obtain rfl : k = i - 1 := by omega
          go_wp2
          (try simp only [Exit.inBlock, Exit.then]); first | go_end0 | refine bodyPost_ret (results_none rfl _ _ _) rfl ?_
          exact ⟨rfl, _, HRK.out.congr (by rw [show i - 1 + 1 = i by omega]), END.out.1, END.out.2⟩

set_option maxRecDepth 100000 in
set_option maxHeartbeats 16000000 in
theorem symm_hi (blk n cap a m : Nat) (d : Nat → Nat) (K : Nat → Int) (cf : Nat → Nat → Int) (cb : Value) (w0 w : World) (hcf : ∀ x y, cf x y < 0 ↔ K x < K y) (hC : CmpAt w0 blk n cf cb) (hR : RowI w0 w blk n d)
    (ham : a + 1 < m) (hb : m + 1 ≤ n) (hs : Srt K a m d) (hl : Low a m (m + 1) d) :
    Calls Try.prog 52 #[.slice (some ⟨blk, 0, none⟩) n cap, .int .i64 a, .int .i64 m, .int .i64 ((m + 1 : Nat) : Int), fvS cb] w fun e w' => e = .returned (.tuple #[]) ∧ ∃ d', RowI w0 w' blk n d' ∧ PermOn a (m + 1) d d' ∧ Srt K a (m + 1) d' := by
  have hsz := hR.sz
  have H0 := Lib.hid hR
  have HC := Lib.hid hC
  have HS := Lib.hid hs
  have HL := Lib.hid hl
  have HCF := Lib.hid hcf
  clear hR hC hs hl hcf
  obtain ⟨b, hbe⟩ : ∃ b, b = m + 1 := ⟨_, rfl⟩
  rw [← hbe]
  obtain ⟨l, hl⟩ : ∃ l, l = m - a := ⟨_, rfl⟩
  have wm := wrapN (z := (m : Int) - (a : Int)) (n := l) (by omega) (by omega)
  have hl1 : ((l : Int) == 1) = false := by rw [beq_eq_false_iff_ne]; omega
  have wb := wrapN (z := (b : Int) - (m : Int)) (n := 1) (by omega) (by omega)
  have HM := Lib.hid hbe
  have hmn : m < n := by omega
  have hmnz : (m : Int) < (n : Int) := by omega
  clear hbe hl
  unfold fvS
  go_enter Try.func52, Try.ntmps52
  go_wp2
  go_loopg [14, 15] (m - a) (fun gh vi vj wr => ∃ i j : Nat, vi = .int .i64 i ∧ vj = .int .i64 j ∧ a ≤ i ∧ i ≤ j ∧ j ≤ m ∧ gh = j - i ∧ (∀ k, a ≤ k → k < i → ltK K (d k) (d m)) ∧ (∀ k, j ≤ k → k < m → ltK K (d m) (d k)) ∧ RowI w0 wr blk n d)
  case atStart => exact ⟨a, m, rfl, rfl, Nat.le_refl _, by omega, Nat.le_refl _, rfl, fun k h1 h2 => by omega, fun k h1 h2 => by omega, H0.out⟩
  case round =>
    clear H0
    obtain ⟨i, j, rfl, rfl, hi, hij, hj, rfl, hll, hrr, hRi⟩ := hrel
    have HLL := Lib.hid hll
    have HRR := Lib.hid hrr
    have HRI := Lib.hid hRi
    clear hll hrr hRi
    by_cases hlt : i < j
    · obtain ⟨h, hh⟩ : ∃ h, h = (i + j) / 2 := ⟨_, rfl⟩
      have hh2 := half_lt hlt
      rw [← hh] at hh2
      have hz : ((i : Int) + (j : Int)) / 2 = (h : Int) := by omega
      clear hh
      obtain ⟨x, hx⟩ : ∃ x, x = d m := ⟨_, rfl⟩
      obtain ⟨y, hy⟩ : ∃ y, y = d h := ⟨_, rfl⟩
      have hhn : (h : Int) < (n : Int) := by omega
      have HX := Lib.hid (show ∀ wq, Below wr.heap.size wr wq → wq.cell? ⟨blk, m, none⟩ = some (.int .i64 x) from fun wq hb => by rw [hx]; exact ((HRI.out.below hb).cell m (by omega)).1)
      have HY := Lib.hid (show ∀ wq, Below wr.heap.size wr wq → wq.cell? ⟨blk, h, none⟩ = some (.int .i64 y) from fun wq hb => by rw [hy]; exact ((HRI.out.below hb).cell h (by omega)).1)
      have HCQ := Lib.hid (HC.out.q HRI.out x y (by rw [hx]; exact HRI.out.lt _ (by omega)) (by rw [hy]; exact HRI.out.lt _ (by omega)))
      have hlo : d h < d m := HL.out h m (by omega) (by omega) (Nat.le_refl _) (by omega)
      have HXY := Lib.hid (show x = d m ∧ y = d h ∧ y < x from ⟨hx, hy, by rw [hx, hy]; exact hlo⟩)
      clear hx hy hlo
      by_cases hk : cf x y < 0
      · have hdk : decide (cf x y < 0) = true := decide_eq_true hk
        go_wp2
        refine wp_region_below (by kernel_rfl) (by kernel_rfl) ?_
        repeat (first | ((with_reducible apply q_skip); (case hw => rfl); (try simp only [Act.put, List.setIfInBounds_toArray, List.set_cons_zero, List.set_cons_succ])) | ((with_reducible refine at_qcallv ?_); refine q_call (.int .i64 (cf x y)) 36 #[.int .i64 x, .int .i64 y, cb] (by rfl) (fun wq hq => by go_simp) HCQ.out ?_; (try simp only [Act.put, List.setIfInBounds_toArray, List.set_cons_zero, List.set_cons_succ])) | ((with_reducible apply q_val); (case hw => rfl); (case hv => intro wq hbq; have hcx := HX.out wq hbq; have hcy := HY.out wq hbq; go_simp; try rfl); (try simp only [Act.put, List.setIfInBounds_toArray, List.set_cons_zero, List.set_cons_succ])))
        refine q_nil ?_
        intro w4 hb4
        go_wp2
        go_roundg (h - i)
        case measure => omega
        case rel =>
          obtain ⟨x1, x2, x3⟩ := HXY.out
          refine ⟨i, h, rfl, rfl, hi, by omega, by omega, rfl, HLL.out, fun k h1 h2 => ?_, HRI.out.below hb4⟩
          have hk' : ltK K (d m) (d h) := by rw [← x1, ← x2]; exact .inl ((HCF.out _ _).1 hk)
          by_cases e : k = h
          · subst e; exact hk'
          · exact ltK_trans hk' (HS.out h k (by omega) (by omega) (by omega))
      · have hdk : decide (cf x y < 0) = false := decide_eq_false hk
        go_wp2
        refine wp_region_below (by kernel_rfl) (by kernel_rfl) ?_
        repeat (first | ((with_reducible apply q_skip); (case hw => rfl); (try simp only [Act.put, List.setIfInBounds_toArray, List.set_cons_zero, List.set_cons_succ])) | ((with_reducible refine at_qcallv ?_); refine q_call (.int .i64 (cf x y)) 36 #[.int .i64 x, .int .i64 y, cb] (by rfl) (fun wq hq => by go_simp) HCQ.out ?_; (try simp only [Act.put, List.setIfInBounds_toArray, List.set_cons_zero, List.set_cons_succ])) | ((with_reducible apply q_val); (case hw => rfl); (case hv => intro wq hbq; have hcx := HX.out wq hbq; have hcy := HY.out wq hbq; go_simp; try rfl); (try simp only [Act.put, List.setIfInBounds_toArray, List.set_cons_zero, List.set_cons_succ])))
        refine q_nil ?_
        intro w4 hb4
        have wh1 := wrapN (z := (h : Int) + 1) (n := h + 1) (by omega) (by omega)
        go_wp2
        go_roundg (j - (h + 1))
        case measure => omega
        case rel =>
          obtain ⟨x1, x2, x3⟩ := HXY.out
          refine ⟨h + 1, j, by go_num, rfl, by omega, by omega, hj, rfl, fun k h1 h2 => ?_, HRR.out, HRI.out.below hb4⟩
          have hk' : ltK K (d h) (d m) := by rw [← x1, ← x2]; exact ltK_no x3 (fun h => by have := (HCF.out _ _).2 h; omega)
          by_cases e : k = h
          · subst e; exact hk'
          · exact ltK_trans (HS.out k h (by omega) (by omega) (by omega)) hk'
    · obtain rfl : i = j := by omega
      have END := Lib.hid (show PermOn a b d (rot i m b d) ∧ Srt K a b (rot i m b d) from by
        have hm := HM.out
        subst hm
        exact ⟨(rot_perm d (by omega) (by omega)).mono hi (Nat.le_refl _), merge_hi HS.out hi hj HLL.out HRR.out⟩)
      clear HLL HRR HC HS HL HCF
      go_wp2
      go_loopg [17] (m - i) (fun gh vk wr => ∃ k : Nat, vk = .int .i64 k ∧ i ≤ k ∧ k ≤ m ∧ gh = k - i ∧ RowI w0 wr blk n (rot k m b d))
      case atStart => exact ⟨m, rfl, hj, Nat.le_refl _, rfl, HRI.out.congr (rot_left m b d).symm⟩
      case round =>
        clear HRI
        obtain ⟨k, rfl, h1, h2, rfl, hRk⟩ := hrel
        have HRK := Lib.hid hRk
        clear hRk
        by_cases hlt2 : i < k
        · obtain ⟨q, hq⟩ : ∃ q, q = k - 1 := ⟨_, rfl⟩
          obtain ⟨dj, hdj⟩ : ∃ dj, dj = rot k m b d := ⟨_, rfl⟩
          have HRD := Lib.hid (hdj ▸ HRK.out : RowI w0 wr blk n dj)
          have wk := wrapN (z := (k : Int) - 1) (n := q) (by omega) (by omega)
          have hkn : (k : Int) < (n : Int) := by omega
          have hqn : (q : Int) < (n : Int) := by omega
          obtain ⟨⟨c1, c2⟩, ⟨f1, f2⟩, u, c3⟩ := HRD.out.two (p := k) (q := q) (by omega) (by omega) (.int .i64 (dj q))
          have HDJ := Lib.hid hdj
          have HQ := Lib.hid hq
          clear hdj hq HRK
          go_wp2
          go_region
          go_wp2
          go_roundg (q - i)
          case measure => have := HQ.out; omega
          case rel =>
            have hq := HQ.out
            refine ⟨q, by go_num, by omega, by omega, rfl, ((HRD.out.swap (by omega) (by omega) rfl).drew.congr ?_)⟩
            rw [HDJ.out, HM.out, hq]; exact rot_down d (by omega) h2
        · obtain rfl : k = i := by omega
          go_wp2
          (try simp only [Exit.inBlock, Exit.then]); first | go_end0 | refine bodyPost_ret (results_none rfl _ _ _) rfl ?_
          exact ⟨rfl, _, HRK.out, END.out.1, END.out.2⟩
end Go.Proofs.Yticdcdahehodkaa
