/-
  No cell of these rows narrows 'for every input' (looked for: loops, veiled, ifaces, maps, wideKeys, modest, calm, conditions, laid).
  DERIVED. THE GIVEN ROWS OF THIS SEAT. 10 by the template 'for every input the law returns true; each argument reads behind the call as it read before'; 0 by the template 'total and deterministic' (their statements: YtanfhjfpdgjphaaTotals.lean).
  GIVEN WITH THE SEED: the statements are not yours to turn. If you find one false, say at which input.
  Laid BY PROGRAM, IN A SANDBOX (cutbox-rows.mjs): the forced cells as the released guide's own fill.sh prints them over the translation 88cd39f002550aa3… (all of the seat's roots in one cut). By AI agents, Wed Nov 11 2026. No macro, syntax, notation, axiom, sorry.
-/
import Derived.Test.YtanfhjfpdgjphaaChecked
import GoSem.Claim
import GoSem.ClaimJoined
import GoSem.ClaimMapViews
import Derived.JoinedTies
import Derived.KernelRfl
namespace Go.Proofs.Ytanfhjfpdgjphaa
/- THE CELL 'sum', in the pinned program and in every row, IS THE sha256 OF THE DUMP (.gsa) THAT YtanfhjfpdgjphaaProg.lean LOADS. Nothing in Lean hashes anything: it is a label: what it is worth is what the hold of that sum in a sandbox is worth. -/
noncomputable def Try.pinned : Pinned := { name := "ytanfhjfpdgjphaa", sum := "88cd39f002550aa34661dca473f0027a6116f1d9a8b8d1467d927cc96d077b47", checked := Try.checked }
namespace Rows
def none {H : Type} : Left H := { results := [], args := [] }

/-- 'broadsidelaw01.FixnumProducts': WHATEVER THE INPUT: true; the input reads as it did. -/
def fixnumProductsSpec : ChangeSpec := { name := "fixnumProducts", fn := fun _ => fun
  | [d1, d2, d3] => { results := [.lit (.bool true)], args := [d1, d2, d3] }
  | _ => none }
def fixnumProductsRow : OpenClaim := { program := "ytanfhjfpdgjphaa", sum := "88cd39f002550aa34661dca473f0027a6116f1d9a8b8d1467d927cc96d077b47", func := "broadside/broadsidelaw01.FixnumProducts", spec := "fixnumProducts", named := ["math/bits.divideError", "math/bits.overflowError"], apart := false }
def FixnumProductsSaid : Prop := fixnumProductsRow.holds Try.pinned (OpenSpec.ofChange fixnumProductsSpec)

/-- ITS FALSE NEIGHBOUR: 'it returns false'. Refute it at one input. -/
def fixnumProductsWrong : ChangeSpec := { name := "fixnumProducts", fn := fun _ => fun
  | [d1, d2, d3] => { results := [.lit (.bool false)], args := [d1, d2, d3] }
  | _ => none }
def FixnumProductsWrongFalsely : Prop := fixnumProductsRow.holds Try.pinned (OpenSpec.ofChange fixnumProductsWrong)

/-- 'broadsidelaw01.FixnumWithin': WHATEVER THE INPUT: true; the input reads as it did. -/
def fixnumWithinSpec : ChangeSpec := { name := "fixnumWithin", fn := fun _ => fun
  | [d1, d2] => { results := [.lit (.bool true)], args := [d1, d2] }
  | _ => none }
def fixnumWithinRow : OpenClaim := { program := "ytanfhjfpdgjphaa", sum := "88cd39f002550aa34661dca473f0027a6116f1d9a8b8d1467d927cc96d077b47", func := "broadside/broadsidelaw01.FixnumWithin", spec := "fixnumWithin", named := ["math/bits.divideError", "math/bits.overflowError"], apart := false }
def FixnumWithinSaid : Prop := fixnumWithinRow.holds Try.pinned (OpenSpec.ofChange fixnumWithinSpec)

/-- ITS FALSE NEIGHBOUR: 'it returns false'. Refute it at one input. -/
def fixnumWithinWrong : ChangeSpec := { name := "fixnumWithin", fn := fun _ => fun
  | [d1, d2] => { results := [.lit (.bool false)], args := [d1, d2] }
  | _ => none }
def FixnumWithinWrongFalsely : Prop := fixnumWithinRow.holds Try.pinned (OpenSpec.ofChange fixnumWithinWrong)

/-- 'broadsidelaw01.FixnumSigns': WHATEVER THE INPUT: true; the input reads as it did. -/
def fixnumSignsSpec : ChangeSpec := { name := "fixnumSigns", fn := fun _ => fun
  | [d1, d2, d3] => { results := [.lit (.bool true)], args := [d1, d2, d3] }
  | _ => none }
def fixnumSignsRow : OpenClaim := { program := "ytanfhjfpdgjphaa", sum := "88cd39f002550aa34661dca473f0027a6116f1d9a8b8d1467d927cc96d077b47", func := "broadside/broadsidelaw01.FixnumSigns", spec := "fixnumSigns", named := ["math/bits.divideError", "math/bits.overflowError"], apart := false }
def FixnumSignsSaid : Prop := fixnumSignsRow.holds Try.pinned (OpenSpec.ofChange fixnumSignsSpec)

/-- ITS FALSE NEIGHBOUR: 'it returns false'. Refute it at one input. -/
def fixnumSignsWrong : ChangeSpec := { name := "fixnumSigns", fn := fun _ => fun
  | [d1, d2, d3] => { results := [.lit (.bool false)], args := [d1, d2, d3] }
  | _ => none }
def FixnumSignsWrongFalsely : Prop := fixnumSignsRow.holds Try.pinned (OpenSpec.ofChange fixnumSignsWrong)

/-- 'broadsidelaw01.FixnumFloor': WHATEVER THE INPUT: true; the input reads as it did. -/
def fixnumFloorSpec : ChangeSpec := { name := "fixnumFloor", fn := fun _ => fun
  | [d1, d2, d3] => { results := [.lit (.bool true)], args := [d1, d2, d3] }
  | _ => none }
def fixnumFloorRow : OpenClaim := { program := "ytanfhjfpdgjphaa", sum := "88cd39f002550aa34661dca473f0027a6116f1d9a8b8d1467d927cc96d077b47", func := "broadside/broadsidelaw01.FixnumFloor", spec := "fixnumFloor", named := ["math/bits.divideError", "math/bits.overflowError"], apart := false }
def FixnumFloorSaid : Prop := fixnumFloorRow.holds Try.pinned (OpenSpec.ofChange fixnumFloorSpec)

/-- ITS FALSE NEIGHBOUR: 'it returns false'. Refute it at one input. -/
def fixnumFloorWrong : ChangeSpec := { name := "fixnumFloor", fn := fun _ => fun
  | [d1, d2, d3] => { results := [.lit (.bool false)], args := [d1, d2, d3] }
  | _ => none }
def FixnumFloorWrongFalsely : Prop := fixnumFloorRow.holds Try.pinned (OpenSpec.ofChange fixnumFloorWrong)

/-- 'broadsidelaw01.FixnumSums': WHATEVER THE INPUT: true; the input reads as it did. -/
def fixnumSumsSpec : ChangeSpec := { name := "fixnumSums", fn := fun _ => fun
  | [d1, d2] => { results := [.lit (.bool true)], args := [d1, d2] }
  | _ => none }
def fixnumSumsRow : OpenClaim := { program := "ytanfhjfpdgjphaa", sum := "88cd39f002550aa34661dca473f0027a6116f1d9a8b8d1467d927cc96d077b47", func := "broadside/broadsidelaw01.FixnumSums", spec := "fixnumSums", named := ["math/bits.divideError", "math/bits.overflowError"], apart := false }
def FixnumSumsSaid : Prop := fixnumSumsRow.holds Try.pinned (OpenSpec.ofChange fixnumSumsSpec)

/-- ITS FALSE NEIGHBOUR: 'it returns false'. Refute it at one input. -/
def fixnumSumsWrong : ChangeSpec := { name := "fixnumSums", fn := fun _ => fun
  | [d1, d2] => { results := [.lit (.bool false)], args := [d1, d2] }
  | _ => none }
def FixnumSumsWrongFalsely : Prop := fixnumSumsRow.holds Try.pinned (OpenSpec.ofChange fixnumSumsWrong)

/-- 'broadsidelaw01.FixnumAll': WHATEVER THE INPUT: true; the input reads as it did. -/
def fixnumAllSpec : ChangeSpec := { name := "fixnumAll", fn := fun _ => fun
  | [d] => { results := [.lit (.bool true)], args := [d] }
  | _ => none }
def fixnumAllRow : OpenClaim := { program := "ytanfhjfpdgjphaa", sum := "88cd39f002550aa34661dca473f0027a6116f1d9a8b8d1467d927cc96d077b47", func := "broadside/broadsidelaw01.FixnumAll", spec := "fixnumAll", inPlace := ["math/bits.Add64"], named := ["math/bits.divideError", "math/bits.overflowError"], apart := false }
def FixnumAllSaid : Prop := fixnumAllRow.holds Try.pinned (OpenSpec.ofChange fixnumAllSpec)

/-- ITS FALSE NEIGHBOUR: 'it returns false'. Refute it at one input. -/
def fixnumAllWrong : ChangeSpec := { name := "fixnumAll", fn := fun _ => fun
  | [d] => { results := [.lit (.bool false)], args := [d] }
  | _ => none }
def FixnumAllWrongFalsely : Prop := fixnumAllRow.holds Try.pinned (OpenSpec.ofChange fixnumAllWrong)

/-- 'broadsidelaw01.FixnumBack': WHATEVER THE INPUT: true; the input reads as it did. -/
def fixnumBackSpec : ChangeSpec := { name := "fixnumBack", fn := fun _ => fun
  | [d1, d2] => { results := [.lit (.bool true)], args := [d1, d2] }
  | _ => none }
def fixnumBackRow : OpenClaim := { program := "ytanfhjfpdgjphaa", sum := "88cd39f002550aa34661dca473f0027a6116f1d9a8b8d1467d927cc96d077b47", func := "broadside/broadsidelaw01.FixnumBack", spec := "fixnumBack", inPlace := ["math/bits.Add64"], named := ["math/bits.divideError", "math/bits.overflowError"], apart := false }
def FixnumBackSaid : Prop := fixnumBackRow.holds Try.pinned (OpenSpec.ofChange fixnumBackSpec)

/-- ITS FALSE NEIGHBOUR: 'it returns false'. Refute it at one input. -/
def fixnumBackWrong : ChangeSpec := { name := "fixnumBack", fn := fun _ => fun
  | [d1, d2] => { results := [.lit (.bool false)], args := [d1, d2] }
  | _ => none }
def FixnumBackWrongFalsely : Prop := fixnumBackRow.holds Try.pinned (OpenSpec.ofChange fixnumBackWrong)

/-- 'broadsidelaw01.FixnumSplits': WHATEVER THE INPUT: true; the input reads as it did. -/
def fixnumSplitsSpec : ChangeSpec := { name := "fixnumSplits", fn := fun _ => fun
  | [d1, d2] => { results := [.lit (.bool true)], args := [d1, d2] }
  | _ => none }
def fixnumSplitsRow : OpenClaim := { program := "ytanfhjfpdgjphaa", sum := "88cd39f002550aa34661dca473f0027a6116f1d9a8b8d1467d927cc96d077b47", func := "broadside/broadsidelaw01.FixnumSplits", spec := "fixnumSplits", inPlace := ["math/bits.Add64"], unfollowed := true, recurses := true, named := ["math/bits.divideError", "math/bits.overflowError"], apart := false }
def FixnumSplitsSaid : Prop := fixnumSplitsRow.holds Try.pinned (OpenSpec.ofChange fixnumSplitsSpec)

/-- ITS FALSE NEIGHBOUR: 'it returns false'. Refute it at one input. -/
def fixnumSplitsWrong : ChangeSpec := { name := "fixnumSplits", fn := fun _ => fun
  | [d1, d2] => { results := [.lit (.bool false)], args := [d1, d2] }
  | _ => none }
def FixnumSplitsWrongFalsely : Prop := fixnumSplitsRow.holds Try.pinned (OpenSpec.ofChange fixnumSplitsWrong)

/-- 'broadsidelaw01.FixnumWhole': WHATEVER THE INPUT: true; the input reads as it did. -/
def fixnumWholeSpec : ChangeSpec := { name := "fixnumWhole", fn := fun _ => fun
  | [d1, d2] => { results := [.lit (.bool true)], args := [d1, d2] }
  | _ => none }
def fixnumWholeRow : OpenClaim := { program := "ytanfhjfpdgjphaa", sum := "88cd39f002550aa34661dca473f0027a6116f1d9a8b8d1467d927cc96d077b47", func := "broadside/broadsidelaw01.FixnumWhole", spec := "fixnumWhole", inPlace := ["math/bits.Add64"], unfollowed := true, recurses := true, named := ["math/bits.divideError", "math/bits.overflowError"], apart := false }
def FixnumWholeSaid : Prop := fixnumWholeRow.holds Try.pinned (OpenSpec.ofChange fixnumWholeSpec)

/-- ITS FALSE NEIGHBOUR: 'it returns false'. Refute it at one input. -/
def fixnumWholeWrong : ChangeSpec := { name := "fixnumWhole", fn := fun _ => fun
  | [d1, d2] => { results := [.lit (.bool false)], args := [d1, d2] }
  | _ => none }
def FixnumWholeWrongFalsely : Prop := fixnumWholeRow.holds Try.pinned (OpenSpec.ofChange fixnumWholeWrong)

/-- 'broadsidelaw01.FixnumScale': WHATEVER THE INPUT: true; the input reads as it did. -/
def fixnumScaleSpec : ChangeSpec := { name := "fixnumScale", fn := fun _ => fun
  | [d1, d2, d3] => { results := [.lit (.bool true)], args := [d1, d2, d3] }
  | _ => none }
def fixnumScaleRow : OpenClaim := { program := "ytanfhjfpdgjphaa", sum := "88cd39f002550aa34661dca473f0027a6116f1d9a8b8d1467d927cc96d077b47", func := "broadside/broadsidelaw01.FixnumScale", spec := "fixnumScale", inPlace := ["math/bits.Add64"], unfollowed := true, recurses := true, named := ["math/bits.divideError", "math/bits.overflowError"], apart := false }
def FixnumScaleSaid : Prop := fixnumScaleRow.holds Try.pinned (OpenSpec.ofChange fixnumScaleSpec)

/-- ITS FALSE NEIGHBOUR: 'it returns false'. Refute it at one input. -/
def fixnumScaleWrong : ChangeSpec := { name := "fixnumScale", fn := fun _ => fun
  | [d1, d2, d3] => { results := [.lit (.bool false)], args := [d1, d2, d3] }
  | _ => none }
def FixnumScaleWrongFalsely : Prop := fixnumScaleRow.holds Try.pinned (OpenSpec.ofChange fixnumScaleWrong)

/- THE SECOND FORM. 'bulk': how many values and letters a reading holds, each counted each time it is reached (what is shared counts as often as it is met; a slice's spare places count too). A statement '..UptoSaid' is the law's where the arguments, and the package variables that the reading takes, are together of bulk at most 1048576: NARROWER than '..Said'. Prove '..Said' where nothing that the law and all that it calls make is longer than what came in: it says more and counts as full. Else prove '..UptoSaid'. A law counts once. -/
mutual
def uptoBulk {H : Type} : DataW H → Nat
  | .lit (.string bytes) => bytes.length + 1
  | .lit _ => 1
  | .nil => 1
  | .ptr d => uptoBulk d + 1
  | .slice elems spare => uptoBulkAll elems + uptoBulkAll spare + 1
  | .agg parts => uptoBulkAll parts + 1
  | .iface _ d => uptoBulk d + 1
  | .map entries => uptoBulkEntries entries + 1
  | .held _ => 1
def uptoBulkAll {H : Type} : List (DataW H) → Nat
  | [] => 0
  | d :: r => uptoBulk d + uptoBulkAll r
def uptoBulkEntries {H : Type} : List (Lit × DataW H) → Nat
  | [] => 0
  | x :: r => uptoBulkEntry x + uptoBulkEntries r
def uptoBulkEntry {H : Type} : Lit × DataW H → Nat
  | (.string bytes, d) => bytes.length + uptoBulk d + 1
  | (_, d) => uptoBulk d + 1
 end
def uptoSmall : (H : Type) → List (DataW H) → Bool := fun _ ds => decide (uptoBulkAll ds ≤ 1048576)
def OpenSpec.upto (s : _root_.Go.ChangeSpec) : _root_.Go.OpenSpec := { _root_.Go.OpenSpec.ofChange s with cond := some uptoSmall }

/-- 'broadsidelaw01.FixnumProducts', WHERE WHAT IT READS IS OF BULK AT MOST 1048576: true; the input reads as it did. -/
def fixnumProductsUptoRow : OpenClaim := { program := "ytanfhjfpdgjphaa", sum := "88cd39f002550aa34661dca473f0027a6116f1d9a8b8d1467d927cc96d077b47", func := "broadside/broadsidelaw01.FixnumProducts", spec := "fixnumProducts", named := ["math/bits.divideError", "math/bits.overflowError"], apart := false, narrowed := true }
def FixnumProductsUptoSaid : Prop := fixnumProductsUptoRow.holds Try.pinned (OpenSpec.upto fixnumProductsSpec)

/-- 'broadsidelaw01.FixnumWithin', WHERE WHAT IT READS IS OF BULK AT MOST 1048576: true; the input reads as it did. -/
def fixnumWithinUptoRow : OpenClaim := { program := "ytanfhjfpdgjphaa", sum := "88cd39f002550aa34661dca473f0027a6116f1d9a8b8d1467d927cc96d077b47", func := "broadside/broadsidelaw01.FixnumWithin", spec := "fixnumWithin", named := ["math/bits.divideError", "math/bits.overflowError"], apart := false, narrowed := true }
def FixnumWithinUptoSaid : Prop := fixnumWithinUptoRow.holds Try.pinned (OpenSpec.upto fixnumWithinSpec)

/-- 'broadsidelaw01.FixnumSigns', WHERE WHAT IT READS IS OF BULK AT MOST 1048576: true; the input reads as it did. -/
def fixnumSignsUptoRow : OpenClaim := { program := "ytanfhjfpdgjphaa", sum := "88cd39f002550aa34661dca473f0027a6116f1d9a8b8d1467d927cc96d077b47", func := "broadside/broadsidelaw01.FixnumSigns", spec := "fixnumSigns", named := ["math/bits.divideError", "math/bits.overflowError"], apart := false, narrowed := true }
def FixnumSignsUptoSaid : Prop := fixnumSignsUptoRow.holds Try.pinned (OpenSpec.upto fixnumSignsSpec)

/-- 'broadsidelaw01.FixnumFloor', WHERE WHAT IT READS IS OF BULK AT MOST 1048576: true; the input reads as it did. -/
def fixnumFloorUptoRow : OpenClaim := { program := "ytanfhjfpdgjphaa", sum := "88cd39f002550aa34661dca473f0027a6116f1d9a8b8d1467d927cc96d077b47", func := "broadside/broadsidelaw01.FixnumFloor", spec := "fixnumFloor", named := ["math/bits.divideError", "math/bits.overflowError"], apart := false, narrowed := true }
def FixnumFloorUptoSaid : Prop := fixnumFloorUptoRow.holds Try.pinned (OpenSpec.upto fixnumFloorSpec)

/-- 'broadsidelaw01.FixnumSums', WHERE WHAT IT READS IS OF BULK AT MOST 1048576: true; the input reads as it did. -/
def fixnumSumsUptoRow : OpenClaim := { program := "ytanfhjfpdgjphaa", sum := "88cd39f002550aa34661dca473f0027a6116f1d9a8b8d1467d927cc96d077b47", func := "broadside/broadsidelaw01.FixnumSums", spec := "fixnumSums", named := ["math/bits.divideError", "math/bits.overflowError"], apart := false, narrowed := true }
def FixnumSumsUptoSaid : Prop := fixnumSumsUptoRow.holds Try.pinned (OpenSpec.upto fixnumSumsSpec)

/-- 'broadsidelaw01.FixnumAll', WHERE WHAT IT READS IS OF BULK AT MOST 1048576: true; the input reads as it did. -/
def fixnumAllUptoRow : OpenClaim := { program := "ytanfhjfpdgjphaa", sum := "88cd39f002550aa34661dca473f0027a6116f1d9a8b8d1467d927cc96d077b47", func := "broadside/broadsidelaw01.FixnumAll", spec := "fixnumAll", inPlace := ["math/bits.Add64"], named := ["math/bits.divideError", "math/bits.overflowError"], apart := false, narrowed := true }
def FixnumAllUptoSaid : Prop := fixnumAllUptoRow.holds Try.pinned (OpenSpec.upto fixnumAllSpec)

/-- 'broadsidelaw01.FixnumBack', WHERE WHAT IT READS IS OF BULK AT MOST 1048576: true; the input reads as it did. -/
def fixnumBackUptoRow : OpenClaim := { program := "ytanfhjfpdgjphaa", sum := "88cd39f002550aa34661dca473f0027a6116f1d9a8b8d1467d927cc96d077b47", func := "broadside/broadsidelaw01.FixnumBack", spec := "fixnumBack", inPlace := ["math/bits.Add64"], named := ["math/bits.divideError", "math/bits.overflowError"], apart := false, narrowed := true }
def FixnumBackUptoSaid : Prop := fixnumBackUptoRow.holds Try.pinned (OpenSpec.upto fixnumBackSpec)

/-- 'broadsidelaw01.FixnumSplits', WHERE WHAT IT READS IS OF BULK AT MOST 1048576: true; the input reads as it did. -/
def fixnumSplitsUptoRow : OpenClaim := { program := "ytanfhjfpdgjphaa", sum := "88cd39f002550aa34661dca473f0027a6116f1d9a8b8d1467d927cc96d077b47", func := "broadside/broadsidelaw01.FixnumSplits", spec := "fixnumSplits", inPlace := ["math/bits.Add64"], unfollowed := true, recurses := true, named := ["math/bits.divideError", "math/bits.overflowError"], apart := false, narrowed := true }
def FixnumSplitsUptoSaid : Prop := fixnumSplitsUptoRow.holds Try.pinned (OpenSpec.upto fixnumSplitsSpec)

/-- 'broadsidelaw01.FixnumWhole', WHERE WHAT IT READS IS OF BULK AT MOST 1048576: true; the input reads as it did. -/
def fixnumWholeUptoRow : OpenClaim := { program := "ytanfhjfpdgjphaa", sum := "88cd39f002550aa34661dca473f0027a6116f1d9a8b8d1467d927cc96d077b47", func := "broadside/broadsidelaw01.FixnumWhole", spec := "fixnumWhole", inPlace := ["math/bits.Add64"], unfollowed := true, recurses := true, named := ["math/bits.divideError", "math/bits.overflowError"], apart := false, narrowed := true }
def FixnumWholeUptoSaid : Prop := fixnumWholeUptoRow.holds Try.pinned (OpenSpec.upto fixnumWholeSpec)

/-- 'broadsidelaw01.FixnumScale', WHERE WHAT IT READS IS OF BULK AT MOST 1048576: true; the input reads as it did. -/
def fixnumScaleUptoRow : OpenClaim := { program := "ytanfhjfpdgjphaa", sum := "88cd39f002550aa34661dca473f0027a6116f1d9a8b8d1467d927cc96d077b47", func := "broadside/broadsidelaw01.FixnumScale", spec := "fixnumScale", inPlace := ["math/bits.Add64"], unfollowed := true, recurses := true, named := ["math/bits.divideError", "math/bits.overflowError"], apart := false, narrowed := true }
def FixnumScaleUptoSaid : Prop := fixnumScaleUptoRow.holds Try.pinned (OpenSpec.upto fixnumScaleSpec)

end Rows
end Go.Proofs.Ytanfhjfpdgjphaa
