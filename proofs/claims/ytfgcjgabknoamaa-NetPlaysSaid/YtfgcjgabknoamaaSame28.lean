/- Mails of the same bytes are the same. Condition: the bytes can be read. -/
import Derived.Test.YtfgcjgabknoamaaCloneF
import Derived.Laws.BytesArg
namespace Go.Proofs.Ytfgcjgabknoamaa
set_option linter.unusedVariables false
set_option linter.unusedSimpArgs false
open Go.RowKit

def numsX (X : Nat → Int) (n : Nat) : List Int := (List.range n).map X
theorem byt_str {w : World} {v : Value} {n : Nat} {X : Nat → Int} (h : BytT w v n X) : (convert 22 9 v).run Try.prog w = .ok (.string (strOfNums (numsX X n))) w := by
  obtain ⟨a, c, rfl, _, _, hz, h5⟩ := h
  rcases h5 with rfl | ⟨g, A, fr, rfl, hg, hx⟩
  · obtain ⟨rfl, rfl⟩ := hz rfl
    rw [run_convert_bytes_nil w 22 5 Try.underlying22 Try.underlying5 0 0 9 Try.underlying9]
    rfl
  · refine run_convert_bytes_arg w 22 5 Try.underlying22 Try.underlying5 g 0 n c (numsX X n) (by simp [numsX]) (fun i hi => ?_) 9 Try.underlying9
    rw [Nat.zero_add, cellF hg, hx i hi]
    simp [numsX, List.getD, hi]
set_option maxHeartbeats 1000000 in
theorem same28_yes (f t : Int) (v1 v2 : Value) (n : Nat) (X : Nat → Int) (w : World) (h1 : BytT w v1 n X) (h2 : BytT w v2 n X) :
    Calls Try.prog 19 #[.agg (m3 f t v1), .agg (m3 f t v2)] w fun e w' => e = .returned (.bool true) ∧ Below w.heap.size w w' := by
  have hb := below_alloc (below_new w (Obj.cells (m3 f t v1) 24)) (Obj.cells (m3 f t v2) 24)
  have s1 := byt_str (h1.kept hb)
  have s2 := byt_str (h2.kept hb)
  have g1 := heap_up (o := Obj.cells (m3 f t v2) 24) (heap_alloc_new w (Obj.cells (m3 f t v1) 24))
  have g2 := heap_alloc2_new w (Obj.cells (m3 f t v1) 24) (Obj.cells (m3 f t v2) 24)
  have c1 := cellF g1
  have c2 := cellF g2
  have a0 : (m3 f t v1)[0]? = some (.int .i64 f) := rfl
  have a1 : (m3 f t v1)[1]? = some (.int .i64 t) := rfl
  have a2 : (m3 f t v1)[2]? = some v1 := rfl
  have b0 : (m3 f t v2)[0]? = some (.int .i64 f) := rfl
  have b1 : (m3 f t v2)[1]? = some (.int .i64 t) := rfl
  have b2 : (m3 f t v2)[2]? = some v2 := rfl
  obtain ⟨q1, r1, rfl, _⟩ := id h1
  obtain ⟨q2, r2, rfl, _⟩ := id h2
  clear h1 h2
  generalize m3 f t (.slice q1 n r1) = M1 at *
  generalize m3 f t (.slice q2 n r2) = M2 at *
  generalize strOfNums (numsX X n) = s at *
  go_enter Try.func19, Try.ntmps19
  go_wp2
  go_ret
  exact ⟨rfl, hb⟩
end Go.Proofs.Ytfgcjgabknoamaa
