/- A script of calls on a net that came in; no slice of it takes more than the form's reach. No condition. -/
import Derived.Test.YtfgcjgabknoamaaMailIn
import Derived.SizedLaws
namespace Go.Proofs.Ytfgcjgabknoamaa
set_option linter.unusedVariables false
set_option linter.unusedSimpArgs false
open Go.RowKit Go.Deep

/-- n rows of c cells each, one behind the other in one block -/
def RowsC (w : World) (c : Nat) (a : Option Addr) (n : Nat) (L : Nat → Array Value) : Prop :=
  ∀ i, i < n → ∃ g off A t fr, a = some (⟨g, off, none⟩ : Addr) ∧ w.heap[g]? = some (.cells A t fr) ∧ off + i * c + c ≤ A.size ∧ A.extract (off + i * c) (off + i * c + c) = L i
theorem RowsC.kept {w w' : World} {c n : Nat} {a : Option Addr} {L : Nat → Array Value} (h : RowsC w c a n L) (hb : Below w.heap.size w w') : RowsC w' c a n L := fun i hi => by
  obtain ⟨g, off, A, t, fr, h1, h2, h3⟩ := h i hi
  exact ⟨g, off, A, t, fr, h1, Ytfgcjgabknoamaa.kept hb h2, h3⟩
theorem RowsC.congr {w : World} {c n : Nat} {a : Option Addr} {L L' : Nat → Array Value} (h : RowsC w c a n L) (e : ∀ i, i < n → L i = L' i) : RowsC w c a n L' := fun i hi => by
  rw [← e i hi]; exact h i hi
section
variable {H : Type} {enc : TypeId × Value → H} {w : World} {spare : Nat → Bool} {held : Bool}
set_option maxRecDepth 100000 in
theorem rows_cells {a : Addr} {n c : Nat} {C : Nat → List Value} (hc0 : 0 < c) (h : ∀ i, i < n → w.cells? 0 (a.add (i * c)) c = some (C i)) : RowsC w c (some a) n (fun i => (C i).toArray) := by
  intro i hi
  have hc : ∀ i, i < n → ∀ j, j < c → w.cell? (a.add (i * c + j)) = (C i)[j]? ∧ (C i).length = c := fun i hi j hj => by
    obtain ⟨_, h2, h3⟩ := World.cells?_some (h i hi)
    rw [← h3 j hj, add_add]
    exact ⟨rfl, h2⟩
  obtain ⟨b, o, sp⟩ := a
  have h0 := hc 0 (by omega) 0 (by omega)
  have hl0 := h0.2
  have h00 : w.cell? ⟨b, o, sp⟩ = some ((C 0)[0]'(by omega)) := by
    have := h0.1
    simp only [Nat.zero_mul, Nat.add_zero] at this
    rw [show (⟨b, o, sp⟩ : Addr).add 0 = ⟨b, o, sp⟩ from rfl] at this
    rw [this]
    exact List.getElem?_eq_getElem _
  unfold World.cell? at h00
  cases hb : w.heap[b]? with
  | none => simp [hb] at h00
  | some ob =>
    cases ob with
    | cells A t fr =>
      simp only [hb] at h00
      cases sp with
      | some s => simp at h00
      | none =>
        have hA : ∀ i, i < n → ∀ j, j < c → A[o + i * c + j]? = (C i)[j]? := fun i hi j hj => by
          rw [← (hc i hi j hj).1]
          have : (⟨b, o, none⟩ : Addr).add (i * c + j) = ⟨b, o + i * c + j, none⟩ := by unfold Addr.add; split <;> simp_all; omega
          rw [this, cellF hb]
        have hs : o + i * c + c ≤ A.size := by
          have h1 := hA i hi (c - 1) (by omega)
          rw [List.getElem?_eq_getElem (by rw [(hc i hi 0 (by omega)).2]; omega)] at h1
          have := (Array.getElem?_eq_some_iff.1 h1).1
          omega
        refine ⟨b, o, A, t, fr, rfl, hb, hs, ?_⟩
        apply Array.ext_getElem?
        intro j
        rw [Array.getElem?_extract]
        by_cases hj : j < c
        · rw [if_pos (by omega), hA i hi j hj]; simp
        · rw [if_neg (by omega)]
          symm
          simp
          rw [(hc i hi 0 (by omega)).2]; omega
    | _ => simp [hb] at h00
end
/-- a call -/
structure OpD where
  kd : Int
  nn : Int
  f : Int
  t : Int
  a : Option Addr
  n : Nat
  c : Nat
  X : Nat → Int
instance : Inhabited OpD := ⟨⟨0, 0, 0, 0, none, 0, 0, fun _ => 0⟩⟩
def o5 (o : OpD) : Array Value := #[.int .i64 o.kd, .int .i64 o.nn, .int .i64 o.f, .int .i64 o.t, .slice o.a o.n o.c]
structure OkOp (w : World) (o : OpD) : Prop where
  le : o.n ≤ o.c
  byt : Byt w o.a o.n o.X
  hz : o.a = none → o.n = 0 ∧ o.c = 0
  rch : o.n ≤ 140737488355328
theorem o5_all (o : OpD) : (o5 o).all (·.oneCell') = true := all_one fun i v hv => by
  have hi : i < 5 := (Array.getElem?_eq_some_iff.1 hv).1
  have : i = 0 ∨ i = 1 ∨ i = 2 ∨ i = 3 ∨ i = 4 := by omega
  rcases this with rfl | rfl | rfl | rfl | rfl <;> (cases hv; rfl)
section
variable {H : Type} {enc : TypeId × Value → H} {w : World} {spare : Nat → Bool} {held : Bool}
def Wok (t : TypeId) (d : DataW H) : Prop := ∀ n ∈ d.weights Try.prog t, n ≤ 140737488351232
theorem wok_field {t : TypeId} {fs : Array Field} {parts : List (DataW H)} (hu : Try.prog.underlying t = some (.struct fs)) (h : Wok t (.agg parts)) {i : Nat} {f : Field} {d : DataW H} (hf : fs[i]? = some f) (hd : parts[i]? = some d) : Wok f.type d := fun n hn => by
  refine h n ?_
  simp only [DataW.weights, hu]
  refine DataW.weights_mem_each (j := i) ?_ hd n hn
  rw [List.getElem?_map, Array.getElem?_toList, hf]; rfl
theorem mem_weightsAll {e : TypeId} {d : DataW H} : ∀ {l : List (DataW H)}, d ∈ l → ∀ n ∈ d.weights Try.prog e, n ∈ DataW.weightsAll Try.prog e l
  | x :: l, hd, n, hn => by
    simp only [DataW.weightsAll, List.mem_append]
    rcases List.mem_cons.1 hd with rfl | hd
    · exact .inl hn
    · exact .inr (mem_weightsAll hd n hn)
  | [], hd, _, _ => by cases hd
theorem wok_elem {t e : TypeId} {elems sp : List (DataW H)} (hu : Try.prog.underlying t = some (.slice e)) (h : Wok t (.slice elems sp)) {d : DataW H} (hd : d ∈ elems) : Wok e d := fun n hn => by
  refine h n ?_
  simp only [DataW.weights, hu, List.mem_cons, List.mem_append]
  exact .inr (.inl (mem_weightsAll hd n hn))
theorem mail_len {fuel : Nat} {cs : List Value} {x : DataW H × List MemPlace} (h : DataW.trod enc Try.prog w 0 spare held fuel 24 cs = some x) (hw : Wok 24 x.1) {a : Option Addr} {n c : Nat} (hc : cs[2]? = some (.slice a n c)) : n ≤ 140737488355328 := by
  obtain ⟨xs, m, _, hx, hl, hxl, hf⟩ := DataW.trod_struct Try.underlying24 h
  have hc1 : Try.prog.cellsOf 22 = 1 := by kernel_rfl
  have c1 : Try.prog.cellsOf 5 = 1 := by kernel_rfl
  have hy := (show DataW.trod enc Try.prog w 0 spare held m 22 ((cs.drop 2).take (Try.prog.cellsOf 22)) = xs[2]? from hf 2 _ rfl)
  have h2 : 2 < xs.length := by rw [hxl]; decide
  rw [List.getElem?_eq_getElem h2] at hy
  rw [hc1] at hy
  have hwy : Wok 22 (xs[2]).1 := by
    rw [hx] at hw
    exact wok_field (i := 2) Try.underlying24 hw rfl (by rw [List.getElem?_map, List.getElem?_eq_getElem h2]; rfl)
  have hcs : ((cs.drop 2).take 1)[0]? = some (.slice a n c) := by
    rw [List.getElem?_take, if_pos (by omega), List.getElem?_drop]; exact hc
  rcases open_slice1 Try.underlying22 c1 hy with ⟨e, _⟩ | ⟨a', len, cap, m', f, V, D, Pl, e, _, _, _, _, hd, _⟩
  · rw [e] at hcs
    simp at hcs
    omega
  · rw [e] at hcs
    simp at hcs
    obtain ⟨_, rfl, _⟩ := hcs
    rw [hd] at hwy
    have := hwy _ (by simp only [DataW.weights, Try.underlying22]; exact List.mem_cons_self ..)
    rw [show Try.prog.bytesOf 5 = 1 by kernel_rfl] at this
    simp at this
    omega
theorem op28_trod {fuel : Nat} {cs : List Value} {x : DataW H × List MemPlace} (h : DataW.trod enc Try.prog w 0 spare held fuel 50 cs = some x) (hw : Wok 50 x.1) : ∃ o : OpD, cs.toArray = o5 o ∧ OkOp w o := by
  obtain ⟨xs, m, _, hx, hl, hxl, hf⟩ := DataW.trod_struct Try.underlying50 h
  have hc : Try.prog.cellsOf 50 = 5 := by kernel_rfl
  have c2 : Try.prog.cellsOf 3 = 1 := by kernel_rfl
  have c3 : Try.prog.cellsOf 24 = 3 := by kernel_rfl
  have h0 : 0 < xs.length := by rw [hxl]; decide
  have h1 : 1 < xs.length := by rw [hxl]; decide
  have h2 : 2 < xs.length := by rw [hxl]; decide
  have y0 := (show DataW.trod enc Try.prog w 0 spare held m 3 ((cs.drop 0).take (Try.prog.cellsOf 3)) = xs[0]? from hf 0 _ rfl)
  have y1 := (show DataW.trod enc Try.prog w 0 spare held m 3 ((cs.drop 1).take (Try.prog.cellsOf 3)) = xs[1]? from hf 1 _ rfl)
  have y2 := (show DataW.trod enc Try.prog w 0 spare held m 24 ((cs.drop 2).take (Try.prog.cellsOf 24)) = xs[2]? from hf 2 _ rfl)
  rw [List.getElem?_eq_getElem h0, c2] at y0
  rw [List.getElem?_eq_getElem h1, c2] at y1
  rw [List.getElem?_eq_getElem h2, c3] at y2
  rw [hc] at hl
  have hwm : Wok 24 (xs[2]).1 := by
    rw [hx] at hw
    exact wok_field (i := 2) Try.underlying50 hw rfl (by rw [List.getElem?_map, List.getElem?_eq_getElem h2]; rfl)
  obtain ⟨k, e0⟩ := leaf64 (.inr y0)
  obtain ⟨nn, e1⟩ := leaf64 (.inr y1)
  obtain ⟨f, t, a, n, c, X, em, hnc, _, _, hb, hz⟩ := mail_trod y2
  match cs, hl with
  | [v0, v1, v2, v3, v4], _ =>
    simp [m3] at e0 e1 em
    obtain ⟨rfl, rfl, rfl⟩ := em
    subst e0 e1
    exact ⟨⟨k, nn, f, t, a, n, c, X⟩, rfl, hnc, hb, hz, mail_len y2 hwm (by rfl)⟩
set_option maxRecDepth 100000 in
theorem ops28_of {r : Reach} {b : Nat} {v : Value} {d : DataW H} {p : List MemPlace} (hv : Value.okWide Try.prog w r b 43 v) (h : DataW.Trod enc Try.prog w 0 spare held 43 v d p) (hsz : Wok 43 d) :
    ∃ (a : Option Addr) (n cap : Nat) (O : Nat → OpD), v = .slice a n cap ∧ n ≤ cap ∧ cap ≤ 9223372036854775807 ∧ (∀ i, i < n → OkOp w (O i)) ∧ RowsC w 5 a n (fun i => o5 (O i)) ∧ (a = none → n = 0 ∧ cap = 0) := by
  obtain ⟨m, hm⟩ := h
  obtain ⟨a, n, cap, rfl⟩ : ∃ a n cap, v = .slice a n cap := by
    unfold Value.okWide Cell.okWide at hv
    simp only [Try.underlying43] at hv
    unfold Cell.ok at hv
    simp only [Try.underlying43] at hv
    cases v <;> simp_all
  have hc : Try.prog.cellsOf 50 = 5 := by kernel_rfl
  refine ⟨a, n, cap, ?_⟩
  rcases open_slice Try.underlying43 hm with ⟨hc, _⟩ | ⟨a', len, cap', m', f, D, Pl, hc1, _, hl, hmx, hmm, hd, hx⟩
  · simp [Value.cells] at hc
    obtain ⟨rfl, rfl, rfl⟩ := hc
    exact ⟨fun _ => ⟨0, 0, 0, 0, none, 0, 0, fun _ => 0⟩, rfl, by omega, by omega, fun i hi => by omega, fun i hi => by omega, fun _ => ⟨rfl, rfl⟩⟩
  · simp [Value.cells] at hc1
    obtain ⟨rfl, rfl, rfl⟩ := hc1
    have hlm : n ≤ m' := by rw [hmm]; split <;> omega
    rw [hc] at hx
    have hd1 : d = .slice ((List.range n).map D) ((List.range (m' - n)).map fun j => D (n + j)) := congrArg Prod.fst hd
    rw [hd1] at hsz
    obtain ⟨C, hC⟩ := choose_lt (α := List Value) (n := n) (p := fun i cs => w.cells? 0 (a'.add (i * 5)) 5 = some cs ∧ DataW.trod enc Try.prog w 0 spare held f 50 cs = some (D i, Pl i)) (fun i hi => hx i (by omega))
    obtain ⟨O, hO⟩ := choose_lt (α := OpD) (n := n) (p := fun i o => (C i).toArray = o5 o ∧ OkOp w o) (fun i hi => op28_trod (hC i hi).2 (wok_elem Try.underlying43 hsz (List.mem_map.2 ⟨i, List.mem_range.2 hi, rfl⟩)))
    refine ⟨O, rfl, hl, by unfold maxLen at hmx; omega, fun i hi => (hO i hi).2, (rows_cells (by omega) (fun i hi => (hC i hi).1)).congr (fun i hi => (hO i hi).1), fun h => by cases h⟩
end
end Go.Proofs.Ytfgcjgabknoamaa
