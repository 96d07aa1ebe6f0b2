/- A stable sort by merging, plainly: permutations of a stretch, rotations, a merge of two sorted stretches. Nothing of the program is in it. -/
import Derived.Test.YtoglcgijgckdaaaLib
namespace Go.Proofs.Ytoglcgijgckdaaa
set_option linter.unusedVariables false
set_option linter.unusedSimpArgs false

/-- by the key; where keys tie, by number -/
def ltK (K : Nat → Int) (x y : Nat) : Prop := K x < K y ∨ (K x = K y ∧ x < y)
theorem ltK_trans {K : Nat → Int} {x y z : Nat} (h1 : ltK K x y) (h2 : ltK K y z) : ltK K x z := by unfold ltK at *; omega
theorem ltK_or {K : Nat → Int} {x y : Nat} (h : ¬ ltK K x y) (hne : x ≠ y) : ltK K y x := by unfold ltK at *; omega
theorem ltK_irr {K : Nat → Int} {x y : Nat} (h1 : ltK K x y) (h2 : ltK K y x) : False := by unfold ltK at *; omega
theorem ltK_ne {K : Nat → Int} {x y : Nat} (h1 : ltK K x y) : x ≠ y := by rintro rfl; unfold ltK at *; omega
theorem ltK_yes {K : Nat → Int} {x y : Nat} (h : x < y) (hk : K y < K x) : ltK K y x := .inl hk
theorem ltK_no {K : Nat → Int} {x y : Nat} (h : x < y) (hk : ¬ K y < K x) : ltK K x y := by unfold ltK; omega

def Srt (K : Nat → Int) (a b : Nat) (d : Nat → Nat) : Prop := ∀ i j, a ≤ i → i < j → j < b → ltK K (d i) (d j)
theorem Srt.sub {K : Nat → Int} {a b a' b' : Nat} {d : Nat → Nat} (h : Srt K a b d) (h1 : a ≤ a') (h2 : b' ≤ b) : Srt K a' b' d := fun i j hi hij hj => h i j (by omega) hij (by omega)
theorem Srt.congr {K : Nat → Int} {a b : Nat} {d d' : Nat → Nat} (h : Srt K a b d) (e : ∀ k, a ≤ k → k < b → d' k = d k) : Srt K a b d' := fun i j hi hij hj => by
  rw [e i hi (by omega), e j (by omega) hj]; exact h i j hi hij hj

/-- d' is d with the places from a on to b in another order -/
def PermOn (a b : Nat) (d d' : Nat → Nat) : Prop := ∃ σ τ : Nat → Nat, (∀ k, σ (τ k) = k) ∧ (∀ k, τ (σ k) = k) ∧ (∀ k, ¬ (a ≤ k ∧ k < b) → σ k = k) ∧ ∀ k, d' k = d (σ k)
theorem PermOn.refl (a b : Nat) (d : Nat → Nat) : PermOn a b d d := ⟨id, id, fun _ => rfl, fun _ => rfl, fun _ _ => rfl, fun _ => rfl⟩
theorem PermOn.trans {a b : Nat} {d d' d'' : Nat → Nat} (h1 : PermOn a b d d') (h2 : PermOn a b d' d'') : PermOn a b d d'' := by
  obtain ⟨s1, t1, a1, b1, c1, e1⟩ := h1
  obtain ⟨s2, t2, a2, b2, c2, e2⟩ := h2
  exact ⟨fun k => s1 (s2 k), fun k => t2 (t1 k), fun k => by simp only; rw [a2, a1], fun k => by simp only; rw [b1, b2], fun k hk => by simp only; rw [c2 k hk, c1 k hk], fun k => by rw [e2, e1]⟩
theorem PermOn.mono {a b a' b' : Nat} {d d' : Nat → Nat} (h : PermOn a b d d') (h1 : a' ≤ a) (h2 : b ≤ b') : PermOn a' b' d d' := by
  obtain ⟨s, t, h3, h4, h5, h6⟩ := h
  exact ⟨s, t, h3, h4, fun k hk => h5 k (by omega), h6⟩
theorem PermOn.out {a b k : Nat} {d d' : Nat → Nat} (h : PermOn a b d d') (hk : ¬ (a ≤ k ∧ k < b)) : d' k = d k := by
  obtain ⟨s, t, h3, h4, h5, h6⟩ := h
  rw [h6, h5 k hk]
theorem PermOn.inn {a b k : Nat} {d d' : Nat → Nat} (h : PermOn a b d d') (h1 : a ≤ k) (h2 : k < b) : ∃ i, a ≤ i ∧ i < b ∧ d' k = d i := by
  obtain ⟨s, t, h3, h4, h5, h6⟩ := h
  by_cases e : a ≤ s k ∧ s k < b
  · exact ⟨s k, e.1, e.2, h6 k⟩
  · have e1 := h5 _ e
    have e2 : s k = k := by have := congrArg t e1; rwa [h4, h4] at this
    exact absurd (by omega : a ≤ s k ∧ s k < b) e
theorem PermOn.symm {a b : Nat} {d d' : Nat → Nat} (h : PermOn a b d d') : PermOn a b d' d := by
  obtain ⟨s, t, h3, h4, h5, h6⟩ := h
  exact ⟨t, s, h4, h3, fun k hk => by have := h5 k hk; rw [← this, h4, this], fun k => by rw [h6, h3]⟩
/-- what holds of each from a on, and of a pair across, stays -/
theorem PermOn.all {a b : Nat} {d d' : Nat → Nat} (h : PermOn a b d d') {p : Nat → Prop} (hp : ∀ k, a ≤ k → k < b → p (d k)) : ∀ k, a ≤ k → k < b → p (d' k) := fun k h1 h2 => by
  obtain ⟨i, h3, h4, e⟩ := h.inn h1 h2
  rw [e]; exact hp i h3 h4

def swp (d : Nat → Nat) (i j : Nat) : Nat → Nat := fun k => if k = i then d j else if k = j then d i else d k
/-- what stood from m on to b comes ahead of what stood from a on to m -/
def rot (a m b : Nat) (d : Nat → Nat) : Nat → Nat := fun k => if k < a then d k else if k < a + (b - m) then d (k - a + m) else if k < b then d (k - (b - m)) else d k
theorem rot_perm {a m b : Nat} (d : Nat → Nat) (h1 : a ≤ m) (h2 : m ≤ b) : PermOn a b d (rot a m b d) := by
  refine ⟨rot a m b id, rot a (a + (b - m)) b id, fun k => ?_, fun k => ?_, fun k hk => ?_, fun k => ?_⟩
  · unfold rot; simp only [id]; repeat' split
    all_goals omega
  · unfold rot; simp only [id]; repeat' split
    all_goals omega
  · unfold rot; simp only [id]; repeat' split
    all_goals omega
  · unfold rot; simp only [id]; repeat' split
    all_goals first | rfl | omega
theorem rot_left (a b : Nat) (d : Nat → Nat) : rot a a b d = d := by
  funext k; unfold rot; repeat' split
  all_goals first | rfl | (congr 1; omega)
theorem rot_right (a b : Nat) (d : Nat → Nat) : rot a b b d = d := by
  funext k; unfold rot; repeat' split
  all_goals first | rfl | (exfalso; omega) | (congr 1; omega)
/-- one step down of what stood at i -/
theorem rot_down {i j : Nat} (d : Nat → Nat) (h1 : 0 < j) (h2 : j ≤ i) : swp (rot j i (i + 1) d) j (j - 1) = rot (j - 1) i (i + 1) d := by
  funext k; unfold swp rot; repeat' split
  all_goals first | rfl | (exfalso; omega) | (congr 1; omega)
/-- one step up of what stood at a -/
theorem rot_up {a k : Nat} (d : Nat → Nat) (h1 : a ≤ k) : swp (rot a (a + 1) (k + 1) d) k (k + 1) = rot a (a + 1) (k + 2) d := by
  funext i; unfold swp rot; repeat' split
  all_goals first | rfl | (exfalso; omega) | (congr 1; omega)

/-- two stretches of n change places -/
def swr (d : Nat → Nat) (a b n : Nat) : Nat → Nat := fun k => if k < a then d k else if k < a + n then d (k - a + b) else if k < b then d k else if k < b + n then d (k - b + a) else d k
theorem swr_zero (d : Nat → Nat) (a b : Nat) : swr d a b 0 = d := by
  funext k; unfold swr; repeat' split
  all_goals first | rfl | (exfalso; omega) | (congr 1; omega)
theorem swr_next {d : Nat → Nat} {a b n : Nat} (h : a + n < b) : swp (swr d a b n) (a + n) (b + n) = swr d a b (n + 1) := by
  funext k; unfold swp swr; repeat' split
  all_goals first | rfl | (exfalso; omega) | (congr 1; omega)
theorem rot_more {m i j : Nat} (d : Nat → Nat) (hi : i ≤ m) (h : j < i) : rot (m - i + j) m (m + j) (swr d (m - i) m j) = rot (m - i) m (m + j) d := by
  funext k; unfold rot swr; repeat' split
  all_goals first | rfl | (exfalso; omega) | (congr 1; omega)
theorem rot_less {m i j : Nat} (d : Nat → Nat) (hi : i ≤ m) (h : i < j) : rot (m - i) m (m + (j - i)) (swr d (m - i) (m + j - i) i) = rot (m - i) m (m + j) d := by
  funext k; unfold rot swr; repeat' split
  all_goals first | rfl | (exfalso; omega) | (congr 1; omega)
theorem rot_same {m i : Nat} (d : Nat → Nat) (hi : i ≤ m) : swr d (m - i) m i = rot (m - i) m (m + i) d := by
  funext k; unfold rot swr; repeat' split
  all_goals first | rfl | (exfalso; omega) | (congr 1; omega)

/-- the first one is put in its place -/
theorem merge_lo {K : Nat → Int} {d : Nat → Nat} {a b i : Nat} (hS : Srt K (a + 1) b d) (h1 : a + 1 ≤ i) (h2 : i ≤ b) (hl : ∀ k, a + 1 ≤ k → k < i → ltK K (d k) (d a)) (hr : ∀ k, i ≤ k → k < b → ltK K (d a) (d k)) : Srt K a b (rot a (a + 1) i d) := by
  intro x y hx hxy hy
  have e : ∀ k, a ≤ k → rot a (a + 1) i d k = if k + 1 < i then d (k + 1) else if k + 1 = i then d a else d k := fun k hk => by
    unfold rot; repeat' split
    all_goals first | rfl | (exfalso; omega) | (congr 1; omega)
  rw [e x hx, e y (by omega)]
  by_cases cx : x + 1 < i
  · rw [if_pos cx]
    by_cases cy : y + 1 < i
    · rw [if_pos cy]; exact hS _ _ (by omega) (by omega) (by omega)
    · rw [if_neg cy]
      by_cases cz : y + 1 = i
      · rw [if_pos cz]; exact hl _ (by omega) cx
      · rw [if_neg cz]; exact hS _ _ (by omega) (by omega) (by omega)
  · rw [if_neg cx, if_neg (show ¬ y + 1 < i by omega), if_neg (show ¬ y + 1 = i by omega)]
    by_cases cz : x + 1 = i
    · rw [if_pos cz]; exact hr _ (by omega) (by omega)
    · rw [if_neg cz]; exact hS _ _ (by omega) (by omega) (by omega)
/-- the last one is put in its place -/
theorem merge_hi {K : Nat → Int} {d : Nat → Nat} {a m i : Nat} (hS : Srt K a m d) (h1 : a ≤ i) (h2 : i ≤ m) (hl : ∀ k, a ≤ k → k < i → ltK K (d k) (d m)) (hr : ∀ k, i ≤ k → k < m → ltK K (d m) (d k)) : Srt K a (m + 1) (rot i m (m + 1) d) := by
  intro x y hx hxy hy
  have e : ∀ k, k ≤ m → rot i m (m + 1) d k = if k < i then d k else if k = i then d m else d (k - 1) := fun k hk => by
    unfold rot; repeat' split
    all_goals first | rfl | (exfalso; omega) | (congr 1; omega)
  rw [e x (by omega), e y (by omega)]
  by_cases cx : x < i
  · rw [if_pos cx]
    by_cases cy : y < i
    · rw [if_pos cy]; exact hS _ _ (by omega) (by omega) (by omega)
    · rw [if_neg cy]
      by_cases cz : y = i
      · rw [if_pos cz]; exact hl _ (by omega) cx
      · rw [if_neg cz]; exact hS _ _ (by omega) (by omega) (by omega)
  · rw [if_neg cx, if_neg (show ¬ y < i by omega), if_neg (show ¬ y = i by omega)]
    by_cases cz : x = i
    · rw [if_pos cz]; exact hr _ (by omega) (by omega)
    · rw [if_neg cz]; exact hS _ _ (by omega) (by omega) (by omega)

/-- all numbers from a on to m are below those from m on to b -/
def Low (a m b : Nat) (d : Nat → Nat) : Prop := ∀ x y, a ≤ x → x < m → m ≤ y → y < b → d x < d y
/-- behind the middle turn: both halves are to be merged, and each of the first is ahead of each of the second -/
structure Halves (K : Nat → Int) (a s mid e b : Nat) (d : Nat → Nat) : Prop where
  s1 : Srt K a s d
  s2 : Srt K s mid d
  s3 : Srt K mid e d
  s4 : Srt K e b d
  l1 : Low a s mid d
  l2 : Low mid e b d
  lt : ∀ x y, a ≤ x → x < mid → mid ≤ y → y < b → ltK K (d x) (d y)
theorem halves {K : Nat → Int} {d : Nat → Nat} {a m b s mid e : Nat} (hA : Srt K a m d) (hB : Srt K m b d) (hL : Low a m b d) (h1 : a ≤ s) (h2 : s ≤ m) (h3 : m ≤ e) (h4 : e ≤ b) (he : e + s = mid + m)
    (hp : s = a ∨ e = b ∨ ltK K (d (s - 1)) (d e)) (hq : s = m ∨ e = m ∨ ltK K (d (e - 1)) (d s)) : Halves K a s mid e b (rot s m e d) := by
  have ev : ∀ k, rot s m e d k = if k < s then d k else if k < mid then d (k - s + m) else if k < e then d (k - (e - m)) else d k := fun k => by
    unfold rot; repeat' split
    all_goals first | rfl | (exfalso; omega) | (congr 1; omega)
  have e1 : ∀ k, k < s → rot s m e d k = d k := fun k hk => by rw [ev, if_pos hk]
  have e2 : ∀ k, s ≤ k → k < mid → rot s m e d k = d (k - s + m) := fun k hk h => by rw [ev, if_neg (by omega), if_pos h]
  have e3 : ∀ k, mid ≤ k → k < e → rot s m e d k = d (k - (e - m)) := fun k hk h => by rw [ev, if_neg (by omega), if_neg (by omega), if_pos h]
  have e4 : ∀ k, e ≤ k → rot s m e d k = d k := fun k hk => by rw [ev, if_neg (by omega), if_neg (by omega), if_neg (by omega)]
  clear ev
  have lP : ∀ x y, a ≤ x → x < s → e ≤ y → y < b → ltK K (d x) (d y) := fun x y hx hx' hy hy' => by
    rcases hp with h | h | h
    · omega
    · omega
    · have g1 : x = s - 1 ∨ ltK K (d x) (d (s - 1)) := by
        by_cases c : x = s - 1
        · exact .inl c
        · exact .inr (hA _ _ hx (by omega) (by omega))
      have g2 : y = e ∨ ltK K (d e) (d y) := by
        by_cases c : y = e
        · exact .inl c
        · exact .inr (hB _ _ (by omega) (by omega) hy')
      rcases g1 with rfl | g1 <;> rcases g2 with rfl | g2
      · exact h
      · exact ltK_trans h g2
      · exact ltK_trans g1 h
      · exact ltK_trans g1 (ltK_trans h g2)
  have lQ : ∀ x y, m ≤ x → x < e → s ≤ y → y < m → ltK K (d x) (d y) := fun x y hx hx' hy hy' => by
    rcases hq with h | h | h
    · omega
    · omega
    · have g1 : x = e - 1 ∨ ltK K (d x) (d (e - 1)) := by
        by_cases c : x = e - 1
        · exact .inl c
        · exact .inr (hB _ _ (by omega) (by omega) (by omega))
      have g2 : y = s ∨ ltK K (d s) (d y) := by
        by_cases c : y = s
        · exact .inl c
        · exact .inr (hA _ _ (by omega) (by omega) hy')
      rcases g1 with rfl | g1 <;> rcases g2 with rfl | g2
      · exact h
      · exact ltK_trans h g2
      · exact ltK_trans g1 h
      · exact ltK_trans g1 (ltK_trans h g2)
  refine ⟨?_, ?_, ?_, ?_, ?_, ?_, ?_⟩
  · intro x y hx hxy hy; rw [e1 x (by omega), e1 y hy]; exact hA x y hx hxy (by omega)
  · intro x y hx hxy hy; rw [e2 x hx (by omega), e2 y (by omega) hy]; exact hB _ _ (by omega) (by omega) (by omega)
  · intro x y hx hxy hy; rw [e3 x hx (by omega), e3 y (by omega) hy]; exact hA _ _ (by omega) (by omega) (by omega)
  · intro x y hx hxy hy; rw [e4 x hx, e4 y (by omega)]; exact hB _ _ (by omega) (by omega) (by omega)
  · intro x y hx hx' hy hy'; rw [e1 x hx', e2 y hy hy']; exact hL _ _ (by omega) (by omega) (by omega) (by omega)
  · intro x y hx hx' hy hy'; rw [e3 x hx hx', e4 y hy]; exact hL _ _ (by omega) (by omega) (by omega) (by omega)
  · intro x y hx hx' hy hy'
    by_cases cx : x < s
    · rw [e1 x cx]
      by_cases cy : y < e
      · rw [e3 y hy cy]; exact hA _ _ hx (by omega) (by omega)
      · rw [e4 y (by omega)]; exact lP _ _ hx cx (by omega) hy'
    · rw [e2 x (by omega) hx']
      by_cases cy : y < e
      · rw [e3 y hy cy]; exact lQ _ _ (by omega) (by omega) (by omega) (by omega)
      · rw [e4 y (by omega)]; exact hB _ _ (by omega) (by omega) hy'
/-- both halves merged are the whole merged -/
theorem joined {K : Nat → Int} {d d2 d3 : Nat → Nat} {a mid b : Nat} (hl : ∀ x y, a ≤ x → x < mid → mid ≤ y → y < b → ltK K (d x) (d y)) (p1 : PermOn a mid d d2) (s1 : Srt K a mid d2) (p2 : PermOn mid b d2 d3) (s2 : Srt K mid b d3) : Srt K a b d3 := by
  intro x y hx hxy hy
  by_cases cy : y < mid
  · rw [p2.out (by omega), p2.out (by omega)]; exact s1 x y hx hxy cy
  · by_cases cx : x < mid
    · obtain ⟨i, i1, i2, e1⟩ := p1.inn hx cx
      obtain ⟨j, j1, j2, e2⟩ := p2.inn (show mid ≤ y by omega) hy
      rw [p2.out (by omega), e1, e2, p1.out (by omega)]
      exact hl i j i1 i2 j1 j2
    · exact s2 x y (by omega) hxy hy
theorem Low.perm {a m b : Nat} {d d' : Nat → Nat} (h : Low a m b d) (p1 : PermOn a m d d') : Low a m b d' := fun x y hx hx' hy hy' => by
  obtain ⟨i, i1, i2, e⟩ := p1.inn hx hx'
  rw [e, p1.out (by omega)]
  exact h i y i1 i2 hy hy'

/-- sorted by stretches of c: those below a by stretches of 2c already -/
structure Halfway (K : Nat → Int) (c n t : Nat) (d : Nat → Nat) : Prop where
  done : ∀ r, r < t → Srt K (r * (2 * c)) (r * (2 * c) + 2 * c) d
  left : ∀ r, 2 * t ≤ r → Srt K (r * c) (min (r * c + c) n) d
  fits : ∀ r k, 2 * t ≤ r → r * c ≤ k → k < r * c + c → k < n → r * c ≤ d k ∧ d k < r * c + c
  all : PermOn 0 n id d
  pairs : ∀ r k, r * (2 * c) ≤ k → k < r * (2 * c) + 2 * c → k < n → r * (2 * c) ≤ d k ∧ d k < r * (2 * c) + 2 * c
structure Blocks (K : Nat → Int) (c n : Nat) (d : Nat → Nat) : Prop where
  srt : ∀ r, Srt K (r * c) (min (r * c + c) n) d
  fits : ∀ r k, r * c ≤ k → k < r * c + c → k < n → r * c ≤ d k ∧ d k < r * c + c
  all : PermOn 0 n id d
theorem Blocks.half {K : Nat → Int} {c n : Nat} {d : Nat → Nat} (h : Blocks K c n d) : Halfway K c n 0 d where
  done := fun r hr => by omega
  left := fun r _ => h.srt r
  fits := fun r k _ => h.fits r k
  all := h.all
  pairs := fun r k h1 h2 h3 => by
    have e : r * (2 * c) = (2 * r) * c := by rw [Nat.mul_comm 2 r, Nat.mul_assoc]
    have e' : (2 * r + 1) * c = (2 * r) * c + c := by rw [Nat.add_mul, Nat.one_mul]
    rw [e] at h1 h2 ⊢
    by_cases cc : k < (2 * r) * c + c
    · have := h.fits (2 * r) k h1 cc h3; omega
    · have := h.fits (2 * r + 1) k (by omega) (by omega) h3; omega
theorem two_mul' (t c : Nat) : t * (2 * c) = (2 * t) * c ∧ (2 * t + 1) * c = (2 * t) * c + c ∧ (2 * (t + 1)) * c = (2 * t) * c + 2 * c ∧ (t + 1) * (2 * c) = (2 * t) * c + 2 * c := by
  have e : t * (2 * c) = (2 * t) * c := by rw [Nat.mul_comm 2 t, Nat.mul_assoc]
  have e1 : (2 * t + 1) * c = (2 * t) * c + c := by rw [Nat.add_mul, Nat.one_mul]
  have e2 : (t + 1) * (2 * c) = t * (2 * c) + 2 * c := by rw [Nat.add_mul, Nat.one_mul]
  have e3 : (t + 1) * (2 * c) = (2 * (t + 1)) * c := by rw [Nat.mul_comm 2 (t + 1), Nat.mul_assoc]
  omega
theorem later_mul {c r s : Nat} (h : s ≤ r) : s * c ≤ r * c := Nat.mul_le_mul_right c h
/-- what the next merge may ask -/
theorem Halfway.ask {K : Nat → Int} {c n t : Nat} {d : Nat → Nat} (h : Halfway K c n t d) (b : Nat) (hb : b ≤ n) (h1 : t * (2 * c) + c < b) (h2 : b ≤ t * (2 * c) + 2 * c) (hn : b = t * (2 * c) + 2 * c ∨ b = n) :
    Srt K (t * (2 * c)) (t * (2 * c) + c) d ∧ Srt K (t * (2 * c) + c) b d ∧ Low (t * (2 * c)) (t * (2 * c) + c) b d := by
  obtain ⟨e1, e2, e3, e4⟩ := two_mul' t c
  rw [e1] at h1 h2 hn ⊢
  refine ⟨(h.left (2 * t) (by omega)).sub (Nat.le_refl _) (by omega), ?_, ?_⟩
  · have := h.left (2 * t + 1) (by omega)
    rw [e2] at this
    exact this.sub (Nat.le_refl _) (by omega)
  · intro x y hx hx' hy hy'
    have g1 := h.fits (2 * t) x (by omega) hx hx' (by omega)
    have g2 := h.fits (2 * t + 1) y (by omega) (by omega) (by omega) (by omega)
    omega
theorem Halfway.next {K : Nat → Int} {c n t : Nat} {d d' : Nat → Nat} (h : Halfway K c n t d) (hb : t * (2 * c) + 2 * c ≤ n) (p : PermOn (t * (2 * c)) (t * (2 * c) + 2 * c) d d') (s : Srt K (t * (2 * c)) (t * (2 * c) + 2 * c) d') : Halfway K c n (t + 1) d' := by
  obtain ⟨e1, e2, e3, e4⟩ := two_mul' t c
  refine ⟨fun r hr => ?_, fun r hr => ?_, fun r k hr h1 h2 h3 => ?_, h.all.trans (p.mono (by omega) hb), fun r k h1 h2 h3 => ?_⟩
  · by_cases cr : r = t
    · subst cr; exact s
    · have l1 := later_mul (c := 2 * c) (show r + 1 ≤ t by omega)
      rw [Nat.add_mul, Nat.one_mul] at l1
      exact (h.done r (by omega)).congr (fun k _ hk => p.out (by omega))
  · have l1 := later_mul (c := c) hr
    exact (h.left r (by omega)).congr (fun k hk _ => p.out (by omega))
  · have l1 := later_mul (c := c) hr
    rw [p.out (by omega)]
    exact h.fits r k (by omega) h1 h2 h3
  · by_cases cr : r = t
    · subst cr
      obtain ⟨i, i1, i2, e⟩ := p.inn h1 h2
      rw [e]; exact h.pairs r i i1 i2 (by omega)
    · have l1 : r + 1 ≤ t ∨ t + 1 ≤ r := by omega
      have l2 : k < t * (2 * c) ∨ t * (2 * c) + 2 * c ≤ k := by
        rcases l1 with l1 | l1
        · have := later_mul (c := 2 * c) l1; rw [Nat.add_mul, Nat.one_mul] at this; omega
        · have := later_mul (c := 2 * c) l1; rw [Nat.add_mul, Nat.one_mul] at this; omega
      rw [p.out (by omega)]
      exact h.pairs r k h1 h2 h3
/-- the last stretch: merged, or alone -/
theorem Halfway.close {K : Nat → Int} {c n t : Nat} {d d' : Nat → Nat} (h : Halfway K c n t d) (hb : n < t * (2 * c) + 2 * c) (hp : (n ≤ t * (2 * c) + c ∧ d' = d) ∨ (PermOn (t * (2 * c)) n d d' ∧ Srt K (t * (2 * c)) n d')) : Blocks K (2 * c) n d' := by
  obtain ⟨e1, e2, e3, e4⟩ := two_mul' t c
  have p : PermOn (t * (2 * c)) n d d' := by
    rcases hp with ⟨_, rfl⟩ | ⟨hp, _⟩
    · exact .refl _ _ _
    · exact hp
  have s : Srt K (t * (2 * c)) n d' := by
    rcases hp with ⟨hn, rfl⟩ | ⟨_, hs⟩
    · have := h.left (2 * t) (by omega)
      rw [e1] at hn hb ⊢
      exact this.sub (Nat.le_refl _) (by omega)
    · exact hs
  refine ⟨fun r => ?_, fun r k h1 h2 h3 => ?_, h.all.trans (p.mono (by omega) (Nat.le_refl _))⟩
  · by_cases cr : r < t
    · have l1 := later_mul (c := 2 * c) (show r + 1 ≤ t by omega)
      rw [Nat.add_mul, Nat.one_mul] at l1
      exact ((h.done r cr).congr (fun k _ hk => p.out (by omega))).sub (Nat.le_refl _) (by omega)
    · have l1 := later_mul (c := 2 * c) (show t ≤ r by omega)
      exact s.sub l1 (by omega)
  · by_cases cr : k < t * (2 * c)
    · rw [p.out (by omega)]
      exact h.pairs r k h1 h2 h3
    · obtain ⟨i, i1, i2, e⟩ := p.inn (show t * (2 * c) ≤ k by omega) h3
      rw [e]
      have l0 : r = t := by
        apply Classical.byContradiction
        intro hne
        rcases (show r + 1 ≤ t ∨ t + 1 ≤ r by omega) with l1 | l1
        · have := later_mul (c := 2 * c) l1; rw [Nat.add_mul, Nat.one_mul] at this; omega
        · have := later_mul (c := 2 * c) l1; rw [Nat.add_mul, Nat.one_mul] at this; omega
      subst l0
      exact h.pairs r i i1 (by omega) i2
theorem Blocks.end {K : Nat → Int} {c n : Nat} {d : Nat → Nat} (h : Blocks K c n d) (hn : n ≤ c) : PermOn 0 n id d ∧ Srt K 0 n d :=
  ⟨h.all, by have := h.srt 0; rw [Nat.zero_mul, Nat.zero_add, Nat.min_eq_right hn] at this; exact this⟩

/-- the first a places sorted by stretches of c, the others as they were -/
structure Begun (K : Nat → Int) (c n t : Nat) (d : Nat → Nat) : Prop where
  done : ∀ r, r < t → Srt K (r * c) (r * c + c) d
  fits : ∀ r k, r < t → r * c ≤ k → k < r * c + c → r * c ≤ d k ∧ d k < r * c + c
  left : ∀ k, t * c ≤ k → d k = k
  all : PermOn 0 n id d
theorem begun {K : Nat → Int} (c n : Nat) : Begun K c n 0 id := ⟨fun r h => by omega, fun r k h => by omega, fun _ _ => rfl, .refl _ _ _⟩
theorem Begun.next {K : Nat → Int} {c n t : Nat} {d d' : Nat → Nat} (h : Begun K c n t d) (hb : t * c + c ≤ n) (p : PermOn (t * c) (t * c + c) d d') (s : Srt K (t * c) (t * c + c) d') : Begun K c n (t + 1) d' := by
  refine ⟨fun r hr => ?_, fun r k hr h1 h2 => ?_, fun k hk => ?_, h.all.trans (p.mono (by omega) hb)⟩
  · by_cases cr : r = t
    · subst cr; exact s
    · have l1 := later_mul (c := c) (show r + 1 ≤ t by omega)
      rw [Nat.add_mul, Nat.one_mul] at l1
      exact (h.done r (by omega)).congr (fun k _ hk => p.out (by omega))
  · by_cases cr : r = t
    · subst cr
      obtain ⟨i, i1, i2, e⟩ := p.inn h1 h2
      rw [e, h.left i i1]; exact ⟨i1, i2⟩
    · have l1 := later_mul (c := c) (show r + 1 ≤ t by omega)
      rw [Nat.add_mul, Nat.one_mul] at l1
      rw [p.out (by omega)]
      exact h.fits r k (by omega) h1 h2
  · rw [Nat.add_mul, Nat.one_mul] at hk
    rw [p.out (by omega)]; exact h.left k (by omega)
theorem Begun.close {K : Nat → Int} {c n t : Nat} {d d' : Nat → Nat} (h : Begun K c n t d) (hb : n < t * c + c) (hc : t * c ≤ n) (p : PermOn (t * c) n d d') (s : Srt K (t * c) n d') : Blocks K c n d' := by
  refine ⟨fun r => ?_, fun r k h1 h2 h3 => ?_, h.all.trans (p.mono (by omega) (Nat.le_refl _))⟩
  · by_cases cr : r < t
    · have l1 := later_mul (c := c) (show r + 1 ≤ t by omega)
      rw [Nat.add_mul, Nat.one_mul] at l1
      exact ((h.done r cr).congr (fun k _ hk => p.out (by omega))).sub (Nat.le_refl _) (by omega)
    · exact s.sub (later_mul (by omega)) (by omega)
  · by_cases cr : k < t * c
    · rw [p.out (by omega)]
      have l0 : r < t := by
        apply Classical.byContradiction
        intro hne
        have := later_mul (c := c) (show t ≤ r by omega)
        omega
      exact h.fits r k l0 h1 h2
    · obtain ⟨i, i1, i2, e⟩ := p.inn (show t * c ≤ k by omega) h3
      rw [e, h.left i i1]
      have l0 : r = t := by
        apply Classical.byContradiction
        intro hne
        rcases (show r + 1 ≤ t ∨ t + 1 ≤ r by omega) with l1 | l1
        · have := later_mul (c := c) l1; rw [Nat.add_mul, Nat.one_mul] at this; omega
        · have := later_mul (c := c) l1; rw [Nat.add_mul, Nat.one_mul] at this; omega
      subst l0
      omega
end Go.Proofs.Ytoglcgijgckdaaa
