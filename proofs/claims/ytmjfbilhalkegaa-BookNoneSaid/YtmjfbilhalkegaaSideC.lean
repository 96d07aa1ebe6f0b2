/- slices.Clone of orders. No condition. -/
import Derived.Test.YtmjfbilhalkegaaSideA
import Derived.Laws.AppendOwn
import Derived.Lib.SliceRun
namespace Go.Proofs.Ytmjfbilhalkegaa
set_option linter.unusedVariables false
set_option linter.unusedSimpArgs false
open Go.RowKit Go.Deep

theorem at_append31 (T : TypeId) {P : Program} {ops : Array Oper} {Q : Exit → Act → World → Prop} {rest : List Oper} {a : Act} {w : World} {d : Option Tmp} {x y : Operand} {ty : TypeId} {pos : String} {af : Array Edge} {gd : Option (Nat × Bool)}
    (h : wpList P ops Q (⟨d, .call { callee := .builtin .append, args := #[x, y], argTypes := #[T, T] }, ty, pos, af, gd⟩ :: rest) a w) : wpList P ops Q (⟨d, .call { callee := .builtin .append, args := #[x, y], argTypes := #[T, T] }, ty, pos, af, gd⟩ :: rest) a w := h
theorem own_empty_t (W : World) (e : TypeId) (c : Nat) : (W.alloc (.cells #[] e)).ownsRow W.heap.size e c (.slice (some ⟨W.heap.size, 0, none⟩) 0 0) 0 [] :=
  ⟨by simp, .inr ⟨W.heap.size, 0, #[], rfl, Nat.le_refl _, heap_alloc_new _ _, Nat.le_refl _, by unfold maxLen; omega, by simp, by simp⟩⟩
theorem rows_ty {w : World} {t : TypeId} {c n : Nat} {a : Option Addr} {L : Nat → Array Value} (h : RowsT w t c a n L) : ∀ i, i < n → ∃ g off A t' fr, a = some (⟨g, off, none⟩ : Addr) ∧ w.heap[g]? = some (.cells A t' fr) ∧ off + i * c + c ≤ A.size ∧ A.extract (off + i * c) (off + i * c + c) = L i := fun i hi => by
  obtain ⟨g, off, A, fr, h1, h2, h3, h4⟩ := h i hi
  exact ⟨g, off, A, t, fr, h1, h2, h3, h4⟩
set_option maxHeartbeats 1000000 in
theorem sclone_any (ra : Option Addr) (rc k : Nat) (L : Nat → Array Value) (w : World) (hL : ∀ i, IsOrd (L i)) (hR : RowsT w 30 5 ra k L) (hk : k ≤ 1000) (hz : ra = none → k = 0 ∧ rc = 0) :
    Calls Try.prog 46 #[.slice ra k rc] w fun e w' => ∃ v', e = .returned v' ∧ w'.ownsRow w.heap.size 30 5 v' k (flat L k) ∧ Below w.heap.size w w' := by
  have q22 : ∀ (w : World) (a : Option Addr) (n c n' c' : Nat), (binOp .eql 35 (.slice a n c) (.slice none n' c')).run Try.prog w = .ok (.bool a.isNone) w := fun w a n c n' c' => Lib.run_eql_slice_nil w _ _ a n c n' c' Try.underlying35
  cases ra with
  | none =>
    obtain ⟨rfl, rfl⟩ := hz rfl
    go_enter Try.func46, Try.ntmps46
    go_wp2
    go_ret
    exact ⟨_, rfl, World.ownsRow_nil _ _ _ _, Below.refl _ _⟩
  | some ad =>
    have HR := Lib.hid hR
    have HL := Lib.hid hL
    clear hR hL hz
    obtain ⟨i, z, h1, h2, h3, h4, h5⟩ := info_ord
    have HI := Lib.hid (And.intro h1 (And.intro h2 (And.intro h3 (And.intro h4 h5))))
    clear h1 h2 h3 h4 h5
    have hbn := below_new w (Obj.cells #[] 30)
    go_enter Try.func46, Try.ntmps46
    go_wp2_with (((with_reducible refine at_append31 35 ?_); refine wpList_append_own _ rfl _ _ _ rfl w.heap.size _ i z 5 i.bytes Try.underlying35 HI.out.1 HI.out.2.1 HI.out.2.2.1 rfl HI.out.2.2.2.2 (by omega) _ 0 [] rfl (own_empty_t w _ _) ad k rc (flat L k) rfl (flatc_len (fun i => (HL.out i).size) k) (rows_at (by omega) (fun i => (HL.out i).size) (rows_ty (rowsT_kept HR.out hbn))) (flatc_one (fun i => (HL.out i).all) k) (by unfold maxLen; omega) (by have := HI.out.2.2.2.1; have := Nat.mul_le_mul (show 0 + k ≤ 1000 by omega) this; omega) (by simp) ?_; intro v' w' h6 h7 _))
    rw [Nat.zero_add, List.nil_append] at h6
    go_ret
    exact ⟨_, rfl, h6, hbn.grown h7 (by simp) (fun j e => by have e : w.heap.size = j := Option.some.inj e; omega)⟩
end Go.Proofs.Ytmjfbilhalkegaa
