/- Orders as plain data; sides as lists of them. No condition. -/
import Derived.Test.YtmjfbilhalkegaaSideAk
import Derived.Test.YtmjfbilhalkegaaSideAn
import Derived.Test.YtmjfbilhalkegaaReach
namespace Go.Proofs.Ytmjfbilhalkegaa
set_option linter.unusedVariables false
set_option linter.unusedSimpArgs false
open Go.RowKit

structure Od where
  n : Int
  a : Int
  b : Bool
  p : Int
  q : Int
def od0 : Od := ⟨0, 0, false, 0, 0⟩
def oa (o : Od) : Array Value := #[.int .u64 o.n, .int .u32 o.a, .bool o.b, .int .i64 o.p, .int .i64 o.q]
theorem oa0 : oa od0 = zo := rfl
structure OkO (o : Od) : Prop where
  n : 0 ≤ o.n ∧ o.n ≤ 18446744073709551615
  a : 0 ≤ o.a ∧ o.a ≤ 4294967295
  p : F64 o.p
  q : F64 o.q
theorem oa_ord {o : Od} (h : OkO o) : IsOrd (oa o) := ⟨rfl, IsN_of (n := o.n) rfl ⟨h.n.1, h.n.2⟩, IsN_of (n := o.a) rfl ⟨h.a.1, h.a.2⟩, IsB_of (b := o.b) rfl, IsN_of (n := o.p) rfl h.p, IsN_of (n := o.q) rfl h.q⟩
theorem oa_N0 (o : Od) : N (oa o) 0 = o.n := N_of (k := .u64) rfl
theorem oa_N1 (o : Od) : N (oa o) 1 = o.a := N_of (k := .u32) rfl
theorem oa_B2 (o : Od) : Bo (oa o) 2 = o.b := Bo_of rfl
theorem oa_N3 (o : Od) : N (oa o) 3 = o.p := N_of (k := .i64) rfl
theorem oa_N4 (o : Od) : N (oa o) 4 = o.q := N_of (k := .i64) rfl
theorem od0_ok : OkO od0 := ⟨by show (0:Int) ≤ 0 ∧ (0:Int) ≤ _; omega, by show (0:Int) ≤ 0 ∧ (0:Int) ≤ _; omega, by show F64 0; unfold F64; omega, by show F64 0; unfold F64; omega⟩
theorem okO_of {o : Od} (h : IsOrd (oa o)) : OkO o := by
  have h0 := h.n.2
  have h1 := h.a.2
  have h3 := h.p.2
  have h4 := h.l.2
  rw [oa_N0] at h0
  rw [oa_N1] at h1
  rw [oa_N3] at h3
  rw [oa_N4] at h4
  exact ⟨h0, h1, h3, h4⟩
def od (l : List Od) (i : Nat) : Od := l.getD i od0
/-- a side, as a list -/
structure SL (w : World) (g base : Nat) (buy : Bool) (l : List Od) : Prop where
  s : SideIs w g base l.length buy (fun i => oa (od l i))
  ok : ∀ o, o ∈ l → OkO o
theorem SL.kept {w w' : World} {g base : Nat} {buy : Bool} {l : List Od} (h : SL w g base buy l) (hb : Below w.heap.size w w') : SL w' g base buy l := ⟨h.s.kept hb, h.ok⟩
theorem od_ok {l : List Od} (h : ∀ o, o ∈ l → OkO o) (i : Nat) : OkO (od l i) := by
  unfold od
  rw [List.getD_eq_getElem?_getD]
  cases hi : l[i]? with
  | none => exact od0_ok
  | some o => exact h o (List.mem_of_getElem? hi)
theorem SideIs.congr {w : World} {g base k : Nat} {buy : Bool} {L L' : Nat → Array Value} (h : SideIs w g base k buy L) (hL : ∀ i, IsOrd (L' i)) (e : ∀ i, i < k → L i = L' i) : SideIs w g base k buy L' := by
  obtain ⟨v, hg, hr⟩ := h.row
  refine ⟨⟨v, hg, ?_⟩, hL, h.bg, h.hk⟩
  rw [flat_congr (L := L') (L' := L) k (fun i hi => (e i hi).symm)]
  exact hr
theorem sl_of {w : World} {g base k : Nat} {buy : Bool} {L : Nat → Array Value} {l : List Od} (h : SideIs w g base k buy L) (hk : k = l.length) (ho : ∀ o, o ∈ l → OkO o) (e : ∀ i, i < k → L i = oa (od l i)) : SL w g base buy l := by
  subst hk
  exact ⟨h.congr (fun i => oa_ord (od_ok ho i)) e, ho⟩
/-- whether a resting price is as good as an order's, or better -/
def crs (o : Od) (p : Int) : Bool := if o.b then decide (p ≤ o.p) else decide (o.p ≤ p)
/-- one trade -/
structure Tr where
  p : Int
  q : Int
  n : Int
  a : Int
def ta (t : Tr) : Array Value := #[.int .i64 t.p, .int .i64 t.q, .int .u64 t.n, .int .u32 t.a]
/-- what comes of an order that meets a side -/
structure Met where
  rest : List Od
  left : Int
  filled : Int
  tr : List Tr
  gone : List Int
def meet (o : Od) : Int → List Od → Met
  | left, [] => ⟨[], left, 0, [], []⟩
  | left, x :: r =>
    if left ≤ 0 then ⟨x :: r, left, 0, [], []⟩
    else if crs o x.p = false then ⟨x :: r, left, 0, [], []⟩
    else if x.a = o.a then { meet o left r with gone := x.n :: (meet o left r).gone }
    else if left < x.q then ⟨{ x with q := x.q - left } :: r, 0, left, [⟨x.p, left, x.n, x.a⟩], []⟩
    else { meet o (left - x.q) r with filled := x.q + (meet o (left - x.q) r).filled, tr := ⟨x.p, x.q, x.n, x.a⟩ :: (meet o (left - x.q) r).tr }
/-- an order comes to its place -/
def put (buy : Bool) (o : Od) : List Od → List Od
  | [] => [o]
  | x :: r => if bet buy o.p x.p then o :: x :: r else x :: put buy o r
/-- what a price reaches, of other accounts -/
def rch (buy : Bool) (p a : Int) : List Od → Int
  | [] => 0
  | x :: r => if bet buy p x.p then 0 else (if x.a = a then 0 else x.q) + rch buy p a r
/-- an order by its number -/
def gt (n : Int) : List Od → Option Od
  | [] => none
  | x :: r => if x.n = n then some x else gt n r
/-- without the order of that number -/
def del (n : Int) : List Od → List Od
  | [] => []
  | x :: r => if x.n = n then r else x :: del n r
end Go.Proofs.Ytmjfbilhalkegaa
