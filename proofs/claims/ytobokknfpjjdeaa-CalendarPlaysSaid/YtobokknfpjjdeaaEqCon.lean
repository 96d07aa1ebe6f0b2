/- A contract is as itself. No condition. -/
import Derived.Test.YtobokknfpjjdeaaOrdIn05
import Derived.DeepKeys
import Derived.Laws.StructEq
namespace Go.Proofs.Ytobokknfpjjdeaa
set_option linter.unusedVariables false
set_option linter.unusedSimpArgs false
open Go.RowKit Go.Deep

theorem mapM_ex {α β : Type} {f : α → Option β} : ∀ l : List α, (∀ x ∈ l, ∃ b, f x = some b) → ∃ bs, l.mapM f = some bs
  | [], _ => ⟨[], rfl⟩
  | x :: l, h => by
    obtain ⟨b, hb⟩ := h x (by simp)
    obtain ⟨bs, hbs⟩ := mapM_ex l (fun y hy => h y (by simp [hy]))
    exact ⟨b :: bs, by rw [List.mapM_cons, hb, hbs]; rfl⟩
theorem kl_int {d o : Nat} {t : TypeId} {k : IntKind} {cs : List Value} (hu : Try.prog.underlying t = some (.int k)) (hc : Try.prog.cellsOf t = 1) (h : IsN cs.toArray k o) :
    ∃ l, Try.prog.keyLits (d + 1) t ((cs.drop o).take (Try.prog.cellsOf t)) = some l := by
  obtain ⟨h1, h2⟩ := h
  have h1' : cs[o]? = some (.int k (N cs.toArray o)) := by simpa using h1
  have hlt : o < cs.length := (List.getElem?_eq_some_iff.1 h1').1
  have e : (cs.drop o).take 1 = [.int k (N cs.toArray o)] := by
    rw [List.drop_eq_getElem_cons hlt, List.take_succ_cons, List.take_zero, (List.getElem?_eq_some_iff.1 h1').2]
  rw [hc, e]
  unfold Program.keyLits
  rw [hu]
  have hw : (Lit.int k (N cs.toArray o)).wf = true := by simpa [Lit.wf] using h2
  simp [hw]
theorem kl_fields {d : Nat} {t : TypeId} {fs : Array Field} {cs : List Value} (ht : Try.prog.underlying t = some (.struct fs)) (hl : cs.length = Try.prog.cellsOf t) (hn : fs.all (·.name != "_") = true)
    (h : ∀ f ∈ fs.toList, ∃ l, Try.prog.keyLits d f.type ((cs.drop f.offset).take (Try.prog.cellsOf f.type)) = some l) : ∃ l, Try.prog.keyLits (d + 1) t cs = some l := by
  obtain ⟨bs, hb⟩ := mapM_ex fs.toList h
  unfold Program.keyLits
  rw [ht]
  simp only [hl, hn, and_self, if_true, hb]
  exact ⟨_, rfl⟩
theorem kl_spec {d : Nat} {cs : List Value} (h : IsSpec cs.toArray) : ∃ l, Try.prog.keyLits (d + 3) 61 cs = some l := by
  have c2 : Try.prog.cellsOf 2 = 1 := by kernel_rfl
  have c22 : Try.prog.cellsOf 29 = 1 := by kernel_rfl
  have c5 : Try.prog.cellsOf 5 = 1 := by kernel_rfl
  have c23 : Try.prog.cellsOf 59 = 16 := by kernel_rfl
  have hc : Try.prog.cellsOf 61 = 25 := by kernel_rfl
  have hlen : cs.length = 25 := by simpa using h.size
  refine kl_fields Try.underlying61 (by rw [hc]; exact hlen) (by kernel_rfl) fun f hf => ?_
  simp only [List.mem_cons, List.not_mem_nil, or_false] at hf
  rcases hf with rfl | rfl | rfl | rfl | rfl | rfl | rfl | rfl | rfl | rfl
  · exact kl_int Try.underlying29 c22 h.c0
  · exact kl_int Try.underlying5 c5 h.c1
  · exact kl_int Try.underlying2 c2 (h.c 2 (by omega) (by omega))
  · exact kl_int Try.underlying2 c2 (h.c 3 (by omega) (by omega))
  · exact kl_int Try.underlying2 c2 (h.c 4 (by omega) (by omega))
  · exact kl_int Try.underlying2 c2 (h.c 5 (by omega) (by omega))
  · have hm : ∀ i ∈ List.range 16, ∃ l, Try.prog.keyLits (d + 1) 2 ((((cs.drop 6).take 16).drop (i * Try.prog.cellsOf 2)).take (Try.prog.cellsOf 2)) = some l := fun i hi => by
      refine kl_int Try.underlying2 c2 ?_
      rw [c2, Nat.mul_one]
      have hi' := List.mem_range.1 hi
      exact (h.c (6 + i) (by omega) (by omega)).moved (drop_at hi').symm
    obtain ⟨bs, hb⟩ := mapM_ex _ hm
    show ∃ l, Try.prog.keyLits (d + 1 + 1) 59 ((cs.drop 6).take (Try.prog.cellsOf 59)) = some l
    rw [c23]
    unfold Program.keyLits
    rw [Try.underlying59]
    simp only [c23, show ((cs.drop 6).take 16).length = 16 by simp; omega, if_true, hb]
    exact ⟨_, rfl⟩
  · exact kl_int Try.underlying2 c2 (h.c 22 (by omega) (by omega))
  · exact kl_int Try.underlying29 c22 h.c23
  · exact kl_int Try.underlying2 c2 h.c24
theorem kl_con {A : Array Value} (h : IsCon A) : ∃ l, Try.prog.keyLits 4 65 A.toList = some l := by
  have c2 : Try.prog.cellsOf 2 = 1 := by kernel_rfl
  have c3 : Try.prog.cellsOf 63 = 1 := by kernel_rfl
  have c25 : Try.prog.cellsOf 61 = 25 := by kernel_rfl
  have hc : Try.prog.cellsOf 65 = 27 := by kernel_rfl
  refine kl_fields Try.underlying65 (by rw [hc]; simpa using h.size) (by kernel_rfl) fun f hf => ?_
  simp only [List.mem_cons, List.not_mem_nil, or_false] at hf
  rcases hf with rfl | rfl | rfl
  · show ∃ l, Try.prog.keyLits (0 + 3) 61 ((A.toList.drop 0).take (Try.prog.cellsOf 61)) = some l
    rw [c25]
    refine kl_spec ?_
    have e : ((A.toList.drop 0).take 25).toArray = A.extract 0 25 := by
      apply Array.ext'
      simp [List.extract]
    rw [e]
    exact h.sp
  · exact kl_int Try.underlying63 c3 (by simpa using h.st)
  · exact kl_int Try.underlying2 c2 (by simpa using h.pr)
theorem eq_con {A : Array Value} (h : IsCon A) (w : World) : (Op.equalIn 10000 65 (.agg A) (.agg A)).run Try.prog w = .ok true w := by
  obtain ⟨l, hl⟩ := kl_con h
  have hc : Try.prog.cellsOf 65 = 27 := by kernel_rfl
  have hf : (Value.agg A).formed Try.prog 65 = true := by
    simp [Value.formed, Try.underlying65, hc, h.size]
  obtain ⟨r, h1, h2⟩ := run_equalIn_deep (P := Try.prog) 9996 4 65 (by kernel_rfl) w 4 4 (.agg A) (.agg A) l l hf hf hl hl
  rw [show (9996 + 4 : Nat) = 10000 from rfl] at h1
  rw [h1, h2.2 rfl]
theorem neq_con {A : Array Value} (h : IsCon A) (w : World) : (binOp .neq 65 (.agg A) (.agg A)).run Try.prog w = .ok (.bool false) w := by
  rw [run_neq_struct, eq_con h w]; rfl
theorem at_slice1 (T : TypeId) {P : Program} {ops : Array Oper} {Q : Exit → Act → World → Prop} {rest : List Oper} {a : Act} {w : World} {d : Option Tmp} {n : Nat} {ps : Array (Nat × Operand)} {ty : TypeId} {pos : String} {af : Array Edge} {gd : Option (Nat × Bool)}
    (h : wpList P ops Q (⟨d, .buildSlice T n ps, ty, pos, af, gd⟩ :: rest) a w) : wpList P ops Q (⟨d, .buildSlice T n ps, ty, pos, af, gd⟩ :: rest) a w := h
theorem wpList_slice1c {P : Program} {ops : Array Oper} {rest : List Oper} {o : Oper} {a : Act} {w : World} {Q : Exit → Act → World → Prop} (hgd : Region.wanted o (yielded ops a.tmps) = true) (t e : TypeId) (x : Operand) (ho : o.op = .buildSlice t 1 #[(0, x)])
    (B : Array Value) (c : Nat) (hx : a.eval x = .agg B) (hB : B.size = c) (ie : TypeInfo) (z : Value) (hu : P.underlying t = some (.slice e)) (hie : P.info? e = some ie) (hz : ie.zero = some z) (h4 : ie.size = c) (hz4 : z.cells.size = c) (hc : 0 < c) (hc2 : c ≤ 1000)
    (h : wpList P ops Q rest (a.put o.dst (.slice (some ⟨w.heap.size, 0, none⟩) 1 1)) (w.alloc (.cells B e))) : wpList P ops Q (o :: rest) a w :=
  wpList_step fun K hK => by
    rw [if_pos hgd]
    exact op_slice1 t e x ho B c hx hB ie z hu hie hz h4 hz4 hc hc2 (hK _ _ h)
theorem cnext_ok {w : World} {g base k : Nat} {day : Int} {L : Nat → Array Value} (h : CalIs w g base k day L) (hd : day ≠ 4294967295) :
    Calls Try.prog 30 #[.pointer (some ⟨g, 0, none⟩)] w fun e w' => e = .returned (.int .i64 0) ∧ CalIs w' g base k (day + 1) L ∧ Below base w w' ∧ Kv g w w' :=
  (cnext_any h).mono fun e w' h1 => by
    rcases h1 with ⟨h1, _⟩ | ⟨_, h2⟩
    · exact absurd h1 hd
    · exact h2
end Go.Proofs.Ytobokknfpjjdeaa
