/- The statement FixnumAll returns true, whatever slice comes in. No condition but that the numbers fit their kinds. -/
import Derived.Test.YtanfhjfpdgjphaaRSum
import Derived.Deep.Slices
import Derived.OpenShut
import Derived.Laws.AppendOwn
import Derived.Laws.AppendOwnNone
namespace Go.Proofs.Ytanfhjfpdgjphaa
set_option linter.unusedVariables false
set_option linter.unusedSimpArgs false
open Go.RowKit Go.Deep

section
variable {H : Type} {enc : TypeId × Value → H} {w : World} {base : Nat} {spare : Nat → Bool} {held : Bool}
theorem ints_cells {a : Addr} {n : Nat} {Z : Nat → Int} (h : ∀ i, i < n → w.cell? (a.add i) = some (.int .i64 (Z i))) : Ints w (some a) n Z := by
  intro i hi
  obtain ⟨b, o, sp⟩ := a
  have h00 := h 0 (by omega)
  rw [show (⟨b, o, sp⟩ : Addr).add 0 = ⟨b, o, sp⟩ from rfl] at h00
  unfold World.cell? at h00
  cases hb : w.heap[b]? with
  | none => simp [hb] at h00
  | some ob =>
    cases ob with
    | cells A t fr =>
      simp only [hb] at h00
      cases sp with
      | some s => simp at h00
      | none =>
        have hA := h i hi
        have : (⟨b, o, none⟩ : Addr).add i = ⟨b, o + i, none⟩ := by unfold Addr.add; split <;> simp_all
        rw [this, cellF hb] at hA
        exact ⟨b, o, A, t, fr, rfl, hb, hA⟩
    | _ => simp [hb] at h00
theorem ints_of {r : Reach} {b : Nat} {v : Value} {d : DataW H} {p : List MemPlace} (hv : Value.okWide Try.prog w r b 30 v) (h : DataW.Trod enc Try.prog w 0 spare held 30 v d p) :
    ∃ (a : Option Addr) (n cap : Nat) (Z : Nat → Int), v = .slice a n cap ∧ n ≤ cap ∧ cap ≤ 9223372036854775807 ∧ (∀ i, F64 (Z i)) ∧ Ints w a n Z ∧ (a = none → n = 0 ∧ cap = 0) := by
  obtain ⟨m, hm⟩ := h
  obtain ⟨a, n, cap, rfl⟩ : ∃ a n cap, v = .slice a n cap := by
    unfold Value.okWide Cell.okWide at hv
    simp only [Try.underlying30] at hv
    unfold Cell.ok at hv
    simp only [Try.underlying30] at hv
    cases v <;> simp_all
  refine ⟨a, n, cap, ?_⟩
  have c1 : Try.prog.cellsOf 2 = 1 := by kernel_rfl
  rcases open_slice1 Try.underlying30 c1 hm with ⟨hc, _⟩ | ⟨a', len, cap', m', f, V, D, Pl, hc, _, hl, hmx, hmm, _, hx⟩
  · simp [Value.cells] at hc
    obtain ⟨rfl, rfl, rfl⟩ := hc
    exact ⟨fun _ => 0, rfl, by omega, by omega, fun _ => by show F64 0; unfold F64; omega, fun i hi => by omega, fun _ => ⟨rfl, rfl⟩⟩
  · simp [Value.cells] at hc
    obtain ⟨rfl, rfl, rfl⟩ := hc
    have hlm : n ≤ m' := by rw [hmm]; split <;> omega
    obtain ⟨Z, hZ⟩ := choose_lt (α := Int) (n := n) (p := fun i z => w.cell? (a'.add i) = some (.int .i64 z) ∧ F64 z) (fun i hi => by
      obtain ⟨h1, h2⟩ := hx i (by omega)
      obtain ⟨z, h3, _, h4⟩ := DataW.trod_int Try.underlying2 h2
      injection h3 with h3
      refine ⟨z, by rw [h1, h3], ?_⟩
      simpa [Lit.wf, F64, IntKind.min, IntKind.max, IntKind.signed, IntKind.bits] using h4)
    refine ⟨fun i => if i < n then Z i else 0, rfl, hl, by unfold maxLen at hmx; omega, fun i => ?_, ints_cells (fun i hi => by simp only [hi, if_true]; exact (hZ i hi).1), fun h => by cases h⟩
    simp only
    split
    · rename_i hi; exact (hZ i hi).2
    · unfold F64; omega
end

def zl (Z : Nat → Int) (n : Nat) : List Value := (List.range n).map fun i => .int .i64 (Z i)
theorem zl_len (Z : Nat → Int) (n : Nat) : (zl Z n).length = n := by simp [zl]
theorem zl_at (Z : Nat → Int) {n i : Nat} (h : i < n) : (zl Z n)[i]? = some (.int .i64 (Z i)) := by
  unfold zl; rw [List.getElem?_map, List.getElem?_range h]; rfl
theorem own_ints {w : World} {base n : Nat} {e : TypeId} {v : Value} {Z : Nat → Int} (h : w.ownsRow base e 1 v n (zl Z n)) : ∃ a cap, v = .slice a n cap ∧ Ints w a n Z := by
  obtain ⟨_, ⟨rfl, rfl⟩ | ⟨g, cap, cur, rfl, _, hg, hn, _, hc, ht⟩⟩ := h
  · exact ⟨none, 0, rfl, fun i hi => by omega⟩
  · refine ⟨_, cap, rfl, fun i hi => ⟨g, 0, cur, e, _, rfl, hg, ?_⟩⟩
    rw [Nat.zero_add, ← zl_at Z hi, ← ht, List.getElem?_take, if_pos (by omega), Array.getElem?_toList]
theorem info_i64 : ∃ i z, Try.prog.info? 2 = some i ∧ i.zero = some z ∧ i.size = 1 ∧ i.bytes = 8 ∧ z.cells.size = 1 := by
  have h : (Try.prog.info? 2).map (fun i => (i.size, i.bytes, i.zero.map (·.cells.size))) = some (1, 8, some 1) := by kernel_rfl
  cases hi : Try.prog.info? 2 with
  | none => simp [hi] at h
  | some i =>
    simp [hi] at h
    obtain ⟨h1, h2, z, h3, h4⟩ := h
    exact ⟨i, z, rfl, h3, h1, h2, h4⟩
theorem at_append (T : TypeId) {P : Program} {ops : Array Oper} {Q : Exit → Act → World → Prop} {rest : List Oper} {a : Act} {w : World} {d : Option Tmp} {x y : Operand} {ty : TypeId} {pos : String} {af : Array Edge} {gd : Option (Nat × Bool)}
    (h : wpList P ops Q (⟨d, .call { callee := .builtin .append, args := #[x, y], argTypes := #[T, T] }, ty, pos, af, gd⟩ :: rest) a w) : wpList P ops Q (⟨d, .call { callee := .builtin .append, args := #[x, y], argTypes := #[T, T] }, ty, pos, af, gd⟩ :: rest) a w := h
/-- 'append(own, ints...)' -/
theorem wpList_append_ints {ops : Array Oper} {rest : List Oper} {o : Oper} {a : Act} {w : World} {Q : Exit → Act → World → Prop} (hgd : o.guard = none) (s x : Operand)
    (ho : o.op = .call { callee := .builtin .append, args := #[s, x], argTypes := #[30, 30] })
    (base : Nat) (v : Value) (n : Nat) (xs : List Value) (hs : a.eval s = v) (hown : w.ownsRow base 2 1 v n xs)
    (ad : Option Addr) (m c : Nat) (Z : Nat → Int) (hx : a.eval x = .slice ad m c) (hl : Ints w ad m Z) (hnil : ad = none → m = 0 ∧ c = 0)
    (hbytes : (n + m) * 8 ≤ 140737488355328) (hbase : base ≤ w.heap.size)
    (h : ∀ v' w', w'.ownsRow base 2 1 v' (n + m) (xs ++ zl Z m) → w.grownBy w' v.ownBlock → wpList Try.prog ops Q rest (a.put o.dst v') w') : wpList Try.prog ops Q (o :: rest) a w := by
  obtain ⟨i, z, h1, h2, h3, h4, h5⟩ := info_i64
  cases ad with
  | none =>
    obtain ⟨rfl, rfl⟩ := hnil rfl
    refine wpList_append_own_none hgd s x _ ho base _ i 1 Try.underlying30 h1 v n xs hs hown hx ?_
    exact h v w (by simpa [zl] using hown) ⟨rfl, rfl, rfl, Nat.le_refl _, fun _ _ _ => rfl⟩
  | some ad =>
    refine wpList_append_own w hgd s x _ ho base _ i z 1 8 Try.underlying30 h1 h2 h3 h4 h5 (by omega) v n xs hs hown ad m c (zl Z m) hx (by rw [zl_len]; omega) (fun j u hj => ?_) (fun u hu => ?_) (by unfold maxLen; omega) hbytes hbase ?_
    · have hlt : j < m := by rw [← zl_len Z m]; exact (List.getElem?_eq_some_iff.1 hj).1
      rw [zl_at Z hlt] at hj
      injection hj with hj
      subst hj
      obtain ⟨g, off, A, t, fr, ha, hg, hz⟩ := hl j hlt
      injection ha with ha
      subst ha
      have e : (⟨g, off, none⟩ : Addr).add j = ⟨g, off + j, none⟩ := by unfold Addr.add; split <;> simp_all
      rw [e, cellF hg]
      exact hz
    · unfold zl at hu
      obtain ⟨j, _, rfl⟩ := List.mem_map.1 hu
      rfl
    · exact fun v' w' h6 h7 _ => h v' w' h6 h7
theorem own_empty1 (W : World) (e : TypeId) : (W.alloc (.cells #[] e)).ownsRow W.heap.size e 1 (.slice (some ⟨W.heap.size, 0, none⟩) 0 0) 0 [] :=
  ⟨rfl, .inr ⟨W.heap.size, 0, #[], rfl, Nat.le_refl _, heap_alloc_new _ _, Nat.le_refl _, by unfold maxLen; omega, rfl, rfl⟩⟩

set_option maxRecDepth 100000 in
set_option maxHeartbeats 1000000 in
theorem all_walk (a : Option Addr) (n cap : Nat) (Z : Nat → Int) (W : World) (hZ : ∀ i, F64 (Z i)) (hA : Ints W a n Z) (hn : n ≤ cap) (hc : cap ≤ 9223372036854775807) (hz : a = none → n = 0 ∧ cap = 0) :
    Calls Try.prog 8 #[.slice a n cap] W fun e W' => e = .returned (.bool true) ∧ Below W.heap.size W W' := by
  by_cases hlong : 2000 < n
  · go_enter Try.func8, Try.ntmps8
    go_wp2_with (first | (go_at_call 17; (with_reducible refine (known01 _).mono ?_); rintro e w5 ⟨rfl, hb5⟩))
    go_ret
    exact ⟨rfl, hb5⟩
  · have HA := Lib.hid hA
    have HZ := Lib.hid hz
    have HF := Lib.hid hZ
    clear hA hz hZ
    go_enter Try.func8, Try.ntmps8
    go_wp2_with (first
      | ((with_reducible refine at_append 30 ?_); refine wpList_append_ints rfl _ _ rfl W.heap.size (.slice (some ⟨W.heap.size, 0, none⟩) 0 0) 0 [] rfl (own_empty1 W _) a n cap Z rfl (HA.out.kept (below_new _ _)) HZ.out (by omega) (by simp) ?_; intro v1 w1 hown1 hgr1; obtain ⟨a1, c1, rfl, hl1⟩ := own_ints (n := n) (Z := Z) (by simpa using hown1); clear hown1) | fail)
    have hbW : Below W.heap.size W w1 := (below_new W _).grown hgr1 (by simp) (fun k hk => by cases hk; exact Nat.le_refl _)
    have cm := fsum_any a1 n c1 Z w1 HF.out hl1 (by omega)
    have cr := rsum_any a n cap Z w1 HF.out (HA.out.kept hbW) (by omega)
    have cs := fun w2 hb2 => rsame_any a1 a n c1 cap Z w2 HF.out (hl1.kept hb2) (HA.out.kept (below_then hbW hb2)) (by omega)
    generalize fitN (sumZ Z n) = m at *
    generalize fitE (sumZ Z n) = e at *
    refine cm.mono ?_
    clear cm
    rintro e2 w2 ⟨rfl, rfl⟩
    go_wp2_with fail
    refine cr.mono ?_
    clear cr
    rintro e3 w3 ⟨rfl, hb3⟩
    go_wp2_with fail
    refine (cs w3 hb3).mono ?_
    clear cs
    rintro e4 w4 ⟨rfl, hb4⟩
    go_wp2_with (first | (go_at_call 17; (with_reducible refine (known01 _).mono ?_); rintro e w5 ⟨rfl, hb5⟩))
    go_ret
    exact ⟨rfl, below_then hbW (below_then (below_then hb3 hb4) hb5)⟩
end Go.Proofs.Ytanfhjfpdgjphaa
