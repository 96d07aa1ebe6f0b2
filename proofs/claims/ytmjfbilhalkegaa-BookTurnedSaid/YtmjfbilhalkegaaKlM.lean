/- A struct of integers and bools as a key: it is as itself. No condition. -/
import Derived.Test.YtmjfbilhalkegaaMgUncLaw0717
import Derived.DeepKeys
import Derived.Laws.StructEq
namespace Go.Proofs.Ytmjfbilhalkegaa
set_option linter.unusedVariables false
set_option linter.unusedSimpArgs false
open Go.RowKit

theorem mapM_ex {α β : Type} {f : α → Option β} : ∀ l : List α, (∀ x ∈ l, ∃ b, f x = some b) → ∃ bs, l.mapM f = some bs
  | [], _ => ⟨[], rfl⟩
  | x :: l, h => by
    obtain ⟨b, hb⟩ := h x (by simp)
    obtain ⟨bs, hbs⟩ := mapM_ex l (fun y hy => h y (by simp [hy]))
    exact ⟨b :: bs, by rw [List.mapM_cons, hb, hbs]; rfl⟩
theorem kl_int {d o : Nat} {t : TypeId} {k : IntKind} {cs : List Value} (hu : Try.prog.underlying t = some (.int k)) (hc : Try.prog.cellsOf t = 1) (h : IsN cs.toArray k o) :
    ∃ l, Try.prog.keyLits (d + 1) t ((cs.drop o).take (Try.prog.cellsOf t)) = some l := by
  obtain ⟨h1, h2⟩ := h
  have h1' : cs[o]? = some (.int k (N cs.toArray o)) := by simpa using h1
  have hlt : o < cs.length := (List.getElem?_eq_some_iff.1 h1').1
  have e : (cs.drop o).take 1 = [.int k (N cs.toArray o)] := by
    rw [List.drop_eq_getElem_cons hlt, List.take_succ_cons, List.take_zero, (List.getElem?_eq_some_iff.1 h1').2]
  rw [hc, e]
  unfold Program.keyLits
  rw [hu]
  have hw : (Lit.int k (N cs.toArray o)).wf = true := by simpa [Lit.wf] using h2
  simp [hw]
theorem kl_fields {d : Nat} {t : TypeId} {fs : Array Field} {cs : List Value} (ht : Try.prog.underlying t = some (.struct fs)) (hl : cs.length = Try.prog.cellsOf t) (hn : fs.all (·.name != "_") = true)
    (h : ∀ f ∈ fs.toList, ∃ l, Try.prog.keyLits d f.type ((cs.drop f.offset).take (Try.prog.cellsOf f.type)) = some l) : ∃ l, Try.prog.keyLits (d + 1) t cs = some l := by
  obtain ⟨bs, hb⟩ := mapM_ex fs.toList h
  unfold Program.keyLits
  rw [ht]
  simp only [hl, hn, and_self, if_true, hb]
  exact ⟨_, rfl⟩
theorem neq_keys {t : TypeId} {fs : Array Field} {A : Array Value} (ht : Try.prog.underlying t = some (.struct fs)) (hs : A.size = Try.prog.cellsOf t) (hk : Try.prog.keyTypeAt 4 t = true) (hl : ∃ l, Try.prog.keyLits 4 t A.toList = some l) (w : World) :
    (binOp .neq t (.agg A) (.agg A)).run Try.prog w = .ok (.bool false) w := by
  obtain ⟨l, hl⟩ := hl
  have hf : (Value.agg A).formed Try.prog t = true := by
    simp [Value.formed, ht, hs]
  obtain ⟨r, h1, h2⟩ := run_equalIn_deep (P := Try.prog) 9996 4 t hk w 4 4 (.agg A) (.agg A) l l hf hf hl hl
  rw [show (9996 + 4 : Nat) = 10000 from rfl] at h1
  rw [run_neq_struct, h1, h2.2 rfl]; rfl
section
variable {P : Program} {ops : Array Oper} {rest : List Oper} {o : Oper} {a : Act} {Q : Act → Prop}
/-- A whole aggregate is loaded, in a region that draws, whatever is frozen. -/
theorem q_load_fr {W : World} (hw : Region.wanted o (yielded ops a.tmps) = true) (ty : TypeId) (x : Operand) (ho : o.op = .load ty x)
    (g off : Nat) (hx : a.eval x = .pointer (some ⟨g, off, none⟩)) (t : TypeId) (cs : Array Value) (fr : Nat × Nat) (d : TypeDesc) (n : Nat) (hg : W.heap[g]? = some (.cells cs t fr))
    (hu : P.underlying ty = some d) (hd : (match d with | .struct _ | .array _ _ => true | _ => false) = true) (hi : (P.info? ty).map (·.size) = some n) (hn : off + n ≤ cs.size)
    (B : Array Value) (hB : cs.extract off (off + n) = B)
    (h : WQ P ops (fun w' => Below W.heap.size W w') Q rest (a.put o.dst (.agg B))) : WQ P ops (fun w' => Below W.heap.size W w') Q (o :: rest) a :=
  q_val (.agg B) hw (fun w hC => by
    unfold execOp
    simp only [ho, hx, Instr.loadAt, Instr.sureAddr, Sem.run_bind, Sem.run_pure, Result.andThen_ok, run_loadVar_part w g off t ty cs fr d n (kept hC hg) hu hd hi hn, hB]) h
end
end Go.Proofs.Ytmjfbilhalkegaa
