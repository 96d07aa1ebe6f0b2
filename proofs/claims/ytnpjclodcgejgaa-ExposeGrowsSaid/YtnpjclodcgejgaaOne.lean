/- A slice of one leg is made, and a leg is appended to a slice that the call itself made: where it lies then. No condition. -/
import Derived.Test.YtnpjclodcgejgaaSeq
import Derived.Great.BuildSlice
namespace Go.Proofs.Ytnpjclodcgejgaa
set_option linter.unusedVariables false
set_option linter.unusedSimpArgs false
open Go.RowKit

theorem fold_set : ∀ (l : List Value) (k : Nat) (cs : Array Value), k + l.length ≤ cs.size →
    ((l.zipIdx k).foldl (fun cs x => cs.setIfInBounds (0 + x.2) x.1) cs).size = cs.size ∧
    ∀ i, ((l.zipIdx k).foldl (fun cs x => cs.setIfInBounds (0 + x.2) x.1) cs)[i]? = if k ≤ i ∧ i < k + l.length then l[i - k]? else cs[i]?
  | [], k, cs, _ => by
    refine ⟨rfl, fun i => ?_⟩
    simp
    omega
  | v :: l, k, cs, h => by
    simp only [List.length_cons] at h
    simp only [List.zipIdx_cons, List.foldl_cons]
    obtain ⟨h1, h2⟩ := fold_set l (k + 1) (cs.setIfInBounds (0 + k) v) (by simp; omega)
    refine ⟨by rw [h1]; simp, fun i => ?_⟩
    rw [h2 i]
    by_cases e : i = k
    · subst e
      rw [if_neg (by omega), if_pos (by simp), Nat.zero_add, Array.getElem?_setIfInBounds_self_of_lt (by omega)]
      simp
    · by_cases e2 : k + 1 ≤ i ∧ i < k + 1 + l.length
      · rw [if_pos e2, if_pos (by simp; omega), show i - k = (i - (k + 1)) + 1 by omega, List.getElem?_cons_succ]
      · rw [if_neg e2, if_neg (by simp; omega), Array.getElem?_setIfInBounds_ne (by omega)]
theorem fill_one {B : Array Value} {z : Array Value} (hB : B.size = 26) (hz : z.size = 26) :
    Instr.fill (fun i => some (i * 26, 26)) ((Array.range (1 * 26)).map (z[· % z.size]!)) [(0, Value.agg B)] = some B := by
  unfold Instr.fill
  simp only [Value.cells, hB]
  rw [if_neg (by simp)]
  unfold Instr.fill
  congr 1
  have h := fold_set B.toList 0 ((Array.range (1 * 26)).map (z[· % z.size]!)) (by simp [hB])
  have e : Array.foldl (fun cs x => cs.setIfInBounds (0 * 26 + x.2) x.1) ((Array.range (1 * 26)).map (z[· % z.size]!)) (B.zipIdx) = (B.toList.zipIdx 0).foldl (fun cs x => cs.setIfInBounds (0 + x.2) x.1) ((Array.range (1 * 26)).map (z[· % z.size]!)) := by
    rw [← Array.foldl_toList]
    simp
  show Array.foldl (fun cs x => cs.setIfInBounds (0 * 26 + x.2) x.1) ((Array.range (1 * 26)).map (z[· % z.size]!)) (B.zipIdx) = B
  rw [e]
  apply Array.ext_getElem?
  intro i
  rw [h.2 i]
  by_cases hi : i < 26
  · rw [if_pos (by simp [hB]; omega)]; simp
  · rw [if_neg (by simp [hB]; omega), Array.getElem?_eq_none_iff.2 (by simp; omega), Array.getElem?_eq_none_iff.2 (by omega)]

/-- 'legs{x}' -/
theorem wpList_slice_leg {ops : Array Oper} {rest : List Oper} {o : Oper} {a : Act} {w : World} {Q : Exit → Act → World → Prop} (hg : o.guard = none) (x : Operand) (ho : o.op = .buildSlice 60 1 #[(0, x)])
    (B : Array Value) (hx : a.eval x = .agg B) (hB : B.size = 26)
    (h : wpList Try.prog ops Q rest (a.put o.dst (.slice (some ⟨w.heap.size, 0, none⟩) 1 1)) (w.alloc (.cells B 30))) : wpList Try.prog ops Q (o :: rest) a w := by
  obtain ⟨i, z, h1, h2, h3, h4, h5⟩ := info_leg
  refine wpList_buildSlice hg 60 30 1 _ ho B i z Try.underlying60 h1 h2 (by rw [h3]; omega) (by rw [h3]; omega) ?_ h
  rw [h3]
  simp only [List.map_toArray, List.map_cons, List.map_nil, hx]
  exact fill_one hB h5
theorem at_slice1 (T : TypeId) {P : Program} {ops : Array Oper} {Q : Exit → Act → World → Prop} {rest : List Oper} {a : Act} {w : World} {d : Option Tmp} {ps : Array (Nat × Operand)} {ty : TypeId} {pos : String} {af : Array Edge} {gd : Option (Nat × Bool)}
    (h : wpList P ops Q (⟨d, .buildSlice T 1 ps, ty, pos, af, gd⟩ :: rest) a w) : wpList P ops Q (⟨d, .buildSlice T 1 ps, ty, pos, af, gd⟩ :: rest) a w := h

theorem append_where {w : World} {ty : TypeId} {base n : Nat} {v v' : Value} {xs news : List Value} {ad : Addr} {w' : World} (hown : w.ownsRow base 30 26 v n xs) (hl : news.length = 1 * 26)
    (hnews : ∀ (j : Nat) (u : Value), news[j]? = some u → w.cell? (ad.add j) = some u) (h1 : ∀ u ∈ news, u.oneCell' = true) (hb : (n + 1) * 200 ≤ 140737488355328)
    (hr : (Builtin.append_ #[60, 60] ty #[v, .slice (some ad) 1 1]).run Try.prog w = .ok v' w') : v'.ownBlock = v.ownBlock ∨ v'.ownBlock = some w.heap.size := by
  obtain ⟨i, z, i1, i2, i3, i4, i5⟩ := info_leg
  obtain ⟨hxl, hv⟩ := id hown
  rcases hv with ⟨rfl, rfl⟩ | ⟨g, cap, cur, rfl, _, hg, hn, hm, hc, ht⟩
  · have hq := run_append_nil (P := Try.prog) w 60 ty _ i z Try.underlying60 i1 i2 ad 1 1 news (by rw [i3]; exact hl) hnews (by omega) (by omega) (by rw [i4]; omega)
    rw [hr] at hq
    injection hq with hq _
    subst hq
    exact .inr rfl
  · by_cases hroom : n + 1 ≤ cap
    · have hq := run_append_room (P := Try.prog) w 60 ty _ i Try.underlying60 i1 g n cap cur hg ad 1 1 news (by rw [i3]; exact hl) hnews h1 hroom (by rw [i3, hl, hc]; omega)
      rw [hr] at hq
      injection hq with hq _
      subst hq
      exact .inl rfl
    · have holds := hown.cells (g := g) rfl
      have hq := run_append_grow (P := Try.prog) w 60 ty _ i z Try.underlying60 i1 i2 ⟨g, 0, none⟩ n cap xs (by rw [i3]; exact hxl) holds ad 1 1 news (by rw [i3]; exact hl) hnews (by omega) (by omega)
        (by rw [i4]; exact growslice_fits (by omega) hb)
      rw [hr] at hq
      injection hq with hq _
      subst hq
      exact .inr rfl

/-- 'append(own, x)' -/
theorem wpList_append_one {ops : Array Oper} {rest : List Oper} {o : Oper} {a : Act} {w : World} {Q : Exit → Act → World → Prop} (hgd : o.guard = none) (s x : Operand)
    (ho : o.op = .call { callee := .builtin .append, args := #[s, x], argTypes := #[60, 60] })
    (base : Nat) (v : Value) (n : Nat) (xs : List Value) (hs : a.eval s = v) (hown : w.ownsRow base 30 26 v n xs)
    (gs : Nat) (B : Array Value) (hB : IsLeg B) (hx : a.eval x = .slice (some ⟨gs, 0, none⟩) 1 1) (hg : w.heap[gs]? = some (.cells B 30 (0, 0)))
    (hb : (n + 1) * 200 ≤ 140737488355328) (hbase : base ≤ w.heap.size)
    (h : ∀ v' w', w'.ownsRow base 30 26 v' (n + 1) (xs ++ B.toList) → w.grownBy w' v.ownBlock → (v'.ownBlock = v.ownBlock ∨ v'.ownBlock = some w.heap.size) → wpList Try.prog ops Q rest (a.put o.dst v') w') : wpList Try.prog ops Q (o :: rest) a w := by
  obtain ⟨i, z, i1, i2, i3, i4, i5⟩ := info_leg
  have hl : B.toList.length = 1 * 26 := by rw [Array.length_toList, hB.size]
  have hnews : ∀ (j : Nat) (u : Value), B.toList[j]? = some u → w.cell? ((⟨gs, 0, none⟩ : Addr).add j) = some u := fun j u hj => by
    have e : (⟨gs, 0, none⟩ : Addr).add j = ⟨gs, j, none⟩ := by unfold Addr.add; split <;> simp_all
    rw [e, cellF hg, ← Array.getElem?_toList]
    exact hj
  have h1 : ∀ u ∈ B.toList, u.oneCell' = true := fun u hu => by
    have h2 := hB.all
    rw [Array.all_eq_true'] at h2
    exact h2 u (by simpa using hu)
  obtain ⟨v', w', hr, h2, h3, _⟩ := run_append_own (P := Try.prog) w base 60 o.type _ i z 26 200 Try.underlying60 i1 i2 i3 i4 i5 (by omega) v n xs hown ⟨gs, 0, none⟩ 1 1 B.toList hl hnews h1 (by unfold maxLen; omega) hb hbase
  have h4 := append_where hown hl hnews h1 hb hr
  refine wpList_plain hgd fun _ hK => ?_
  unfold Oper.wp execOp
  simp only [ho, resolve, invoke, builtin, Sem.run_bind, Sem.run_pure, Result.andThen_ok, List.map_toArray, List.map_cons, List.map_nil, hs, hx, hr]
  exact hK _ _ (h v' w' h2 h3 h4)
end Go.Proofs.Ytnpjclodcgejgaa
