/-
  No cell of these rows narrows 'for every input' (looked for: loops, veiled, ifaces, maps, wideKeys, modest, calm, conditions, laid).
  DERIVED. THE GIVEN ROWS OF THIS SEAT. 6 by the template 'for every input the law returns true; each argument reads behind the call as it read before'; 0 by the template 'total and deterministic' (their statements: YtmjfbilhalkegaaTotals.lean).
  GIVEN WITH THE SEED: the statements are not yours to turn. If you find one false, say at which input.
  Laid BY PROGRAM, IN A SANDBOX (cutbox-rows.mjs): the forced cells as the released guide's own fill.sh prints them over the translation 3b8eb431abc7d165… (all of the seat's roots in one cut). By AI agents, Wed Nov 11 2026. No macro, syntax, notation, axiom, sorry.
-/
import Derived.Test.YtmjfbilhalkegaaChecked
import GoSem.Claim
import GoSem.ClaimJoined
import GoSem.ClaimMapViews
import Derived.JoinedTies
import Derived.KernelRfl
namespace Go.Proofs.Ytmjfbilhalkegaa
/- THE CELL 'sum', in the pinned program and in every row, IS THE sha256 OF THE DUMP (.gsa) THAT YtmjfbilhalkegaaProg.lean LOADS. Nothing in Lean hashes anything: it is a label: what it is worth is what the hold of that sum in a sandbox is worth. -/
noncomputable def Try.pinned : Pinned := { name := "ytmjfbilhalkegaa", sum := "3b8eb431abc7d165d9843a354a7ae65f1d6fdb2cfee35c2151d6c785de9fa989", checked := Try.checked }
namespace Rows
def none {H : Type} : Left H := { results := [], args := [] }

/-- 'broadsidelaw07.BookUncrossed': WHATEVER THE INPUT: true; the input reads as it did. -/
def bookUncrossedSpec : ChangeSpec := { name := "bookUncrossed", fn := fun _ => fun
  | [d] => { results := [.lit (.bool true)], args := [d] }
  | _ => none }
def bookUncrossedRow : OpenClaim := { program := "ytmjfbilhalkegaa", sum := "3b8eb431abc7d165d9843a354a7ae65f1d6fdb2cfee35c2151d6c785de9fa989", func := "broadside/broadsidelaw07.BookUncrossed", spec := "bookUncrossed", inPlace := ["slices.overlaps[broadside/api.Order]"], unfollowed := true, recurses := true, apart := false }
def BookUncrossedSaid : Prop := bookUncrossedRow.holds Try.pinned (OpenSpec.ofChange bookUncrossedSpec)

/-- ITS FALSE NEIGHBOUR: 'it returns false'. Refute it at one input. -/
def bookUncrossedWrong : ChangeSpec := { name := "bookUncrossed", fn := fun _ => fun
  | [d] => { results := [.lit (.bool false)], args := [d] }
  | _ => none }
def BookUncrossedWrongFalsely : Prop := bookUncrossedRow.holds Try.pinned (OpenSpec.ofChange bookUncrossedWrong)

/-- 'broadsidelaw07.BookTrades': WHATEVER THE INPUT: true; the input reads as it did. -/
def bookTradesSpec : ChangeSpec := { name := "bookTrades", fn := fun _ => fun
  | [d1, d2, d3] => { results := [.lit (.bool true)], args := [d1, d2, d3] }
  | _ => none }
def bookTradesRow : OpenClaim := { program := "ytmjfbilhalkegaa", sum := "3b8eb431abc7d165d9843a354a7ae65f1d6fdb2cfee35c2151d6c785de9fa989", func := "broadside/broadsidelaw07.BookTrades", spec := "bookTrades", inPlace := ["slices.overlaps[broadside/api.Order]"], unfollowed := true, recurses := true, apart := false }
def BookTradesSaid : Prop := bookTradesRow.holds Try.pinned (OpenSpec.ofChange bookTradesSpec)

/-- ITS FALSE NEIGHBOUR: 'it returns false'. Refute it at one input. -/
def bookTradesWrong : ChangeSpec := { name := "bookTrades", fn := fun _ => fun
  | [d1, d2, d3] => { results := [.lit (.bool false)], args := [d1, d2, d3] }
  | _ => none }
def BookTradesWrongFalsely : Prop := bookTradesRow.holds Try.pinned (OpenSpec.ofChange bookTradesWrong)

/-- 'broadsidelaw07.BookTurned': WHATEVER THE INPUT: true; the input reads as it did. -/
def bookTurnedSpec : ChangeSpec := { name := "bookTurned", fn := fun _ => fun
  | [d] => { results := [.lit (.bool true)], args := [d] }
  | _ => none }
def bookTurnedRow : OpenClaim := { program := "ytmjfbilhalkegaa", sum := "3b8eb431abc7d165d9843a354a7ae65f1d6fdb2cfee35c2151d6c785de9fa989", func := "broadside/broadsidelaw07.BookTurned", spec := "bookTurned", inPlace := ["slices.overlaps[broadside/api.Order]"], unfollowed := true, recurses := true, apart := false }
def BookTurnedSaid : Prop := bookTurnedRow.holds Try.pinned (OpenSpec.ofChange bookTurnedSpec)

/-- ITS FALSE NEIGHBOUR: 'it returns false'. Refute it at one input. -/
def bookTurnedWrong : ChangeSpec := { name := "bookTurned", fn := fun _ => fun
  | [d] => { results := [.lit (.bool false)], args := [d] }
  | _ => none }
def BookTurnedWrongFalsely : Prop := bookTurnedRow.holds Try.pinned (OpenSpec.ofChange bookTurnedWrong)

/-- 'broadsidelaw07.BookNow': WHATEVER THE INPUT: true; the input reads as it did. -/
def bookNowSpec : ChangeSpec := { name := "bookNow", fn := fun _ => fun
  | [d1, d2] => { results := [.lit (.bool true)], args := [d1, d2] }
  | _ => none }
def bookNowRow : OpenClaim := { program := "ytmjfbilhalkegaa", sum := "3b8eb431abc7d165d9843a354a7ae65f1d6fdb2cfee35c2151d6c785de9fa989", func := "broadside/broadsidelaw07.BookNow", spec := "bookNow", inPlace := ["slices.overlaps[broadside/api.Order]"], unfollowed := true, recurses := true, apart := false }
def BookNowSaid : Prop := bookNowRow.holds Try.pinned (OpenSpec.ofChange bookNowSpec)

/-- ITS FALSE NEIGHBOUR: 'it returns false'. Refute it at one input. -/
def bookNowWrong : ChangeSpec := { name := "bookNow", fn := fun _ => fun
  | [d1, d2] => { results := [.lit (.bool false)], args := [d1, d2] }
  | _ => none }
def BookNowWrongFalsely : Prop := bookNowRow.holds Try.pinned (OpenSpec.ofChange bookNowWrong)

/-- 'broadsidelaw07.BookWhole': WHATEVER THE INPUT: true; the input reads as it did. -/
def bookWholeSpec : ChangeSpec := { name := "bookWhole", fn := fun _ => fun
  | [d1, d2] => { results := [.lit (.bool true)], args := [d1, d2] }
  | _ => none }
def bookWholeRow : OpenClaim := { program := "ytmjfbilhalkegaa", sum := "3b8eb431abc7d165d9843a354a7ae65f1d6fdb2cfee35c2151d6c785de9fa989", func := "broadside/broadsidelaw07.BookWhole", spec := "bookWhole", inPlace := ["slices.overlaps[broadside/api.Order]"], unfollowed := true, recurses := true, apart := false }
def BookWholeSaid : Prop := bookWholeRow.holds Try.pinned (OpenSpec.ofChange bookWholeSpec)

/-- ITS FALSE NEIGHBOUR: 'it returns false'. Refute it at one input. -/
def bookWholeWrong : ChangeSpec := { name := "bookWhole", fn := fun _ => fun
  | [d1, d2] => { results := [.lit (.bool false)], args := [d1, d2] }
  | _ => none }
def BookWholeWrongFalsely : Prop := bookWholeRow.holds Try.pinned (OpenSpec.ofChange bookWholeWrong)

/-- 'broadsidelaw07.BookNone': WHATEVER THE INPUT: true; the input reads as it did. -/
def bookNoneSpec : ChangeSpec := { name := "bookNone", fn := fun _ => fun
  | [d1, d2] => { results := [.lit (.bool true)], args := [d1, d2] }
  | _ => none }
def bookNoneRow : OpenClaim := { program := "ytmjfbilhalkegaa", sum := "3b8eb431abc7d165d9843a354a7ae65f1d6fdb2cfee35c2151d6c785de9fa989", func := "broadside/broadsidelaw07.BookNone", spec := "bookNone", inPlace := ["slices.overlaps[broadside/api.Order]"], unfollowed := true, recurses := true, apart := false }
def BookNoneSaid : Prop := bookNoneRow.holds Try.pinned (OpenSpec.ofChange bookNoneSpec)

/-- ITS FALSE NEIGHBOUR: 'it returns false'. Refute it at one input. -/
def bookNoneWrong : ChangeSpec := { name := "bookNone", fn := fun _ => fun
  | [d1, d2] => { results := [.lit (.bool false)], args := [d1, d2] }
  | _ => none }
def BookNoneWrongFalsely : Prop := bookNoneRow.holds Try.pinned (OpenSpec.ofChange bookNoneWrong)

/- THE SECOND FORM. 'bulk': how many values and letters a reading holds, each counted each time it is reached (what is shared counts as often as it is met; a slice's spare places count too). A statement '..UptoSaid' is the law's where the arguments, and the package variables that the reading takes, are together of bulk at most 1048576: NARROWER than '..Said'. Prove '..Said' where nothing that the law and all that it calls make is longer than what came in: it says more and counts as full. Else prove '..UptoSaid'. A law counts once. -/
mutual
def uptoBulk {H : Type} : DataW H → Nat
  | .lit (.string bytes) => bytes.length + 1
  | .lit _ => 1
  | .nil => 1
  | .ptr d => uptoBulk d + 1
  | .slice elems spare => uptoBulkAll elems + uptoBulkAll spare + 1
  | .agg parts => uptoBulkAll parts + 1
  | .iface _ d => uptoBulk d + 1
  | .map entries => uptoBulkEntries entries + 1
  | .held _ => 1
def uptoBulkAll {H : Type} : List (DataW H) → Nat
  | [] => 0
  | d :: r => uptoBulk d + uptoBulkAll r
def uptoBulkEntries {H : Type} : List (Lit × DataW H) → Nat
  | [] => 0
  | x :: r => uptoBulkEntry x + uptoBulkEntries r
def uptoBulkEntry {H : Type} : Lit × DataW H → Nat
  | (.string bytes, d) => bytes.length + uptoBulk d + 1
  | (_, d) => uptoBulk d + 1
 end
def uptoSmall : (H : Type) → List (DataW H) → Bool := fun _ ds => decide (uptoBulkAll ds ≤ 1048576)
def OpenSpec.upto (s : _root_.Go.ChangeSpec) : _root_.Go.OpenSpec := { _root_.Go.OpenSpec.ofChange s with cond := some uptoSmall }

/-- 'broadsidelaw07.BookUncrossed', WHERE WHAT IT READS IS OF BULK AT MOST 1048576: true; the input reads as it did. -/
def bookUncrossedUptoRow : OpenClaim := { program := "ytmjfbilhalkegaa", sum := "3b8eb431abc7d165d9843a354a7ae65f1d6fdb2cfee35c2151d6c785de9fa989", func := "broadside/broadsidelaw07.BookUncrossed", spec := "bookUncrossed", inPlace := ["slices.overlaps[broadside/api.Order]"], unfollowed := true, recurses := true, apart := false, narrowed := true }
def BookUncrossedUptoSaid : Prop := bookUncrossedUptoRow.holds Try.pinned (OpenSpec.upto bookUncrossedSpec)

/-- 'broadsidelaw07.BookTrades', WHERE WHAT IT READS IS OF BULK AT MOST 1048576: true; the input reads as it did. -/
def bookTradesUptoRow : OpenClaim := { program := "ytmjfbilhalkegaa", sum := "3b8eb431abc7d165d9843a354a7ae65f1d6fdb2cfee35c2151d6c785de9fa989", func := "broadside/broadsidelaw07.BookTrades", spec := "bookTrades", inPlace := ["slices.overlaps[broadside/api.Order]"], unfollowed := true, recurses := true, apart := false, narrowed := true }
def BookTradesUptoSaid : Prop := bookTradesUptoRow.holds Try.pinned (OpenSpec.upto bookTradesSpec)

/-- 'broadsidelaw07.BookTurned', WHERE WHAT IT READS IS OF BULK AT MOST 1048576: true; the input reads as it did. -/
def bookTurnedUptoRow : OpenClaim := { program := "ytmjfbilhalkegaa", sum := "3b8eb431abc7d165d9843a354a7ae65f1d6fdb2cfee35c2151d6c785de9fa989", func := "broadside/broadsidelaw07.BookTurned", spec := "bookTurned", inPlace := ["slices.overlaps[broadside/api.Order]"], unfollowed := true, recurses := true, apart := false, narrowed := true }
def BookTurnedUptoSaid : Prop := bookTurnedUptoRow.holds Try.pinned (OpenSpec.upto bookTurnedSpec)

/-- 'broadsidelaw07.BookNow', WHERE WHAT IT READS IS OF BULK AT MOST 1048576: true; the input reads as it did. -/
def bookNowUptoRow : OpenClaim := { program := "ytmjfbilhalkegaa", sum := "3b8eb431abc7d165d9843a354a7ae65f1d6fdb2cfee35c2151d6c785de9fa989", func := "broadside/broadsidelaw07.BookNow", spec := "bookNow", inPlace := ["slices.overlaps[broadside/api.Order]"], unfollowed := true, recurses := true, apart := false, narrowed := true }
def BookNowUptoSaid : Prop := bookNowUptoRow.holds Try.pinned (OpenSpec.upto bookNowSpec)

/-- 'broadsidelaw07.BookWhole', WHERE WHAT IT READS IS OF BULK AT MOST 1048576: true; the input reads as it did. -/
def bookWholeUptoRow : OpenClaim := { program := "ytmjfbilhalkegaa", sum := "3b8eb431abc7d165d9843a354a7ae65f1d6fdb2cfee35c2151d6c785de9fa989", func := "broadside/broadsidelaw07.BookWhole", spec := "bookWhole", inPlace := ["slices.overlaps[broadside/api.Order]"], unfollowed := true, recurses := true, apart := false, narrowed := true }
def BookWholeUptoSaid : Prop := bookWholeUptoRow.holds Try.pinned (OpenSpec.upto bookWholeSpec)

/-- 'broadsidelaw07.BookNone', WHERE WHAT IT READS IS OF BULK AT MOST 1048576: true; the input reads as it did. -/
def bookNoneUptoRow : OpenClaim := { program := "ytmjfbilhalkegaa", sum := "3b8eb431abc7d165d9843a354a7ae65f1d6fdb2cfee35c2151d6c785de9fa989", func := "broadside/broadsidelaw07.BookNone", spec := "bookNone", inPlace := ["slices.overlaps[broadside/api.Order]"], unfollowed := true, recurses := true, apart := false, narrowed := true }
def BookNoneUptoSaid : Prop := bookNoneUptoRow.holds Try.pinned (OpenSpec.upto bookNoneSpec)

end Rows
end Go.Proofs.Ytmjfbilhalkegaa
