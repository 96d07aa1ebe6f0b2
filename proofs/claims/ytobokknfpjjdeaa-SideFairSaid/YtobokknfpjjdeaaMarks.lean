/- A function that ran many ranges over functions leaves: the blocks of the rounds' deferred calls are shut one by one. And a whole struct stored over a block inside a fence. No condition. -/
import Derived.Test.YtobokknfpjjdeaaRounds
import Derived.Test.YtobokknfpjjdeaaWpIn
namespace Go.Proofs.Ytobokknfpjjdeaa
set_option linter.unusedVariables false
set_option linter.unusedSimpArgs false
open Go.RowKit Go.Shelf

/-- the marks of the ranges that were run -/
def marks (Ds : List Nat) : List Deferred := Ds.map fun D => { target := .collected D, args := #[] }
theorem marks_cons (D : Nat) (Ds : List Nat) : marks (D :: Ds) = { target := .collected D, args := #[] } :: marks Ds := rfl
theorem leaves_marks {P : Program} {fn : Func} {tmps : Array Value} {R : Ending → World → Prop} : ∀ (Ds : List Nat) (w : World), Ds.Nodup → (∀ D, D ∈ Ds → w.heap[D]? = some (.deferred (some []))) →
    (∀ w', (∀ k, k ∉ Ds → w'.heap[k]? = w.heap[k]?) → (∀ B, (∀ D, D ∈ Ds → B ≤ D) → B ≤ w.heap.size → Below B w w') → LeavesInM Fence.wide 9 P fn tmps R [] .returning w') → LeavesInM Fence.wide 9 P fn tmps R (marks Ds) .returning w
  | [], w, _, _, h => h w (fun _ _ => rfl) (fun _ _ _ => Below.refl _ _)
  | D :: Ds, w, hn, hd, h => by
    rw [marks_cons]
    have hD := hd D (by simp)
    have hn2 := List.nodup_cons.1 hn
    refine leaves_cons hD (leaves_marks Ds _ hn2.2 (fun E hE => put_other hD (hd E (by simp [hE])) (fun e => by subst e; exact hn2.1 hE)) (fun w' h1 h2 => h w' (fun k hk => ?_) (fun B hB hs => ?_)))
    · simp only [List.mem_cons, not_or] at hk
      rw [h1 k hk.2]
      exact World.putObj_heap_other hk.1
    · exact (below_put (Below.refl B w) (hB D (by simp)) hD hs).trans (h2 B (fun E hE => hB E (by simp [hE])) (by simpa using hs))
section
variable {P : Program} {F : Fence} {n : Nat} {ops : Array Oper} {rest : List Oper} {o : Oper} {a : Act} {w : World} {Q : Exit → Act → World → Prop}
theorem wpListIn_store_over (hgd : Region.wanted o (yielded ops a.tmps) = true) (ty : TypeId) (x y : Operand) (ho : o.op = .store ty x y)
    (g : Nat) (S : Array Value) (hx : a.eval x = .pointer (some ⟨g, 0, none⟩)) (hy : a.eval y = .agg S)
    (t : TypeId) (old : Array Value) (hg : w.heap[g]? = some (.cells old t (0, 0))) (hi : (P.info? ty).map (·.size) = some S.size)
    (hold : old.size = S.size) (h1 : S.all (·.oneCell') = true)
    (h : ∀ w1 : World, w1.heap[g]? = some (.cells S t (0, 0)) → w1.heap.size = w.heap.size → (∀ k, k ≠ g → w1.heap[k]? = w.heap[k]?) → (∀ B, B ≤ g → Below B w w1) → wpListIn F n P ops Q rest (a.put o.dst undef) w1) : wpListIn F n P ops Q (o :: rest) a w :=
  wpListIn_step fun K hK => by
    rw [if_pos hgd]
    refine wpIn_of_run (by simp [ho]) (by unfold Oper.about; rw [ho]) (v := undef) (w1 := w.setRow g S) (.inr ⟨?_, rfl⟩) (hK _ _ (h _ (setRow_heap w g old S t _ hg) (setRow_size _ _ _) (fun k hk => setRow_other w g k S hk)
      (fun B hB => ⟨rfl, rfl, rfl, Nat.le_of_eq (setRow_size _ _ _).symm, fun k hk => setRow_other w g k S (by omega)⟩)))
    unfold execOp
    simp only [ho, hx, hy, Instr.storeAt, Instr.sureAddr, Sem.run_bind, Sem.run_pure, Result.andThen_ok, run_storeVar_row w g t ty old S hg hi hold h1]
end
theorem keeps_over {w w1 : World} {g : Nat} {c : Array Value} {t : TypeId} (hg : w.heap[g]? = some (.cells c t (0, 0))) (hs : w1.heap.size = w.heap.size) (ho : ∀ k, k ≠ g → w1.heap[k]? = w.heap[k]?) : KeepsOthers w w1 :=
  ⟨Nat.le_of_eq hs.symm, fun k o hk hc => (ho k (fun e => by subst e; rw [hg] at hk; injection hk with hk; subst hk; simp [Obj.isCells] at hc)).trans hk⟩
end Go.Proofs.Ytobokknfpjjdeaa
