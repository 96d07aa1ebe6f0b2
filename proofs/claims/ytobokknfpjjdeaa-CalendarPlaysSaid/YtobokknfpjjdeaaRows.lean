/-
  No cell of these rows narrows 'for every input' (looked for: loops, veiled, ifaces, maps, wideKeys, modest, calm, conditions, laid).
  DERIVED. THE GIVEN ROWS OF THIS SEAT. 8 by the template 'for every input the law returns true; each argument reads behind the call as it read before'; 0 by the template 'total and deterministic' (their statements: YtobokknfpjjdeaaTotals.lean).
  GIVEN WITH THE SEED: the statements are not yours to turn. If you find one false, say at which input.
  Laid BY PROGRAM, IN A SANDBOX (cutbox-rows.mjs): the forced cells as the released guide's own fill.sh prints them over the translation 50f648e78d61f9b7… (all of the seat's roots in one cut). By AI agents, Wed Nov 11 2026. No macro, syntax, notation, axiom, sorry.
-/
import Derived.Test.YtobokknfpjjdeaaChecked
import GoSem.Claim
import GoSem.ClaimJoined
import GoSem.ClaimMapViews
import Derived.JoinedTies
import Derived.KernelRfl
namespace Go.Proofs.Ytobokknfpjjdeaa
/- THE CELL 'sum', in the pinned program and in every row, IS THE sha256 OF THE DUMP (.gsa) THAT YtobokknfpjjdeaaProg.lean LOADS. Nothing in Lean hashes anything: it is a label: what it is worth is what the hold of that sum in a sandbox is worth. -/
noncomputable def Try.pinned : Pinned := { name := "ytobokknfpjjdeaa", sum := "50f648e78d61f9b71f00ad267b82c2ad222d4d0aff0092222cce219fa76b5fbf", checked := Try.checked }
namespace Rows
def none {H : Type} : Left H := { results := [], args := [] }

/-- 'broadsidelaw06.SideReach': WHATEVER THE INPUT: true; the input reads as it did. -/
def sideReachSpec : ChangeSpec := { name := "sideReach", fn := fun _ => fun
  | [d1, d2, d3] => { results := [.lit (.bool true)], args := [d1, d2, d3] }
  | _ => none }
def sideReachRow : OpenClaim := { program := "ytobokknfpjjdeaa", sum := "50f648e78d61f9b71f00ad267b82c2ad222d4d0aff0092222cce219fa76b5fbf", func := "broadside/broadsidelaw06.SideReach", spec := "sideReach", inPlace := ["slices.overlaps[broadside/api.Order]"], unfollowed := true, recurses := true, apart := false }
def SideReachSaid : Prop := sideReachRow.holds Try.pinned (OpenSpec.ofChange sideReachSpec)

/-- ITS FALSE NEIGHBOUR: 'it returns false'. Refute it at one input. -/
def sideReachWrong : ChangeSpec := { name := "sideReach", fn := fun _ => fun
  | [d1, d2, d3] => { results := [.lit (.bool false)], args := [d1, d2, d3] }
  | _ => none }
def SideReachWrongFalsely : Prop := sideReachRow.holds Try.pinned (OpenSpec.ofChange sideReachWrong)

/-- 'broadsidelaw06.SideFair': WHATEVER THE INPUT: true; the input reads as it did. -/
def sideFairSpec : ChangeSpec := { name := "sideFair", fn := fun _ => fun
  | [d1, d2] => { results := [.lit (.bool true)], args := [d1, d2] }
  | _ => none }
def sideFairRow : OpenClaim := { program := "ytobokknfpjjdeaa", sum := "50f648e78d61f9b71f00ad267b82c2ad222d4d0aff0092222cce219fa76b5fbf", func := "broadside/broadsidelaw06.SideFair", spec := "sideFair", inPlace := ["slices.overlaps[broadside/api.Order]"], unfollowed := true, recurses := true, apart := false }
def SideFairSaid : Prop := sideFairRow.holds Try.pinned (OpenSpec.ofChange sideFairSpec)

/-- ITS FALSE NEIGHBOUR: 'it returns false'. Refute it at one input. -/
def sideFairWrong : ChangeSpec := { name := "sideFair", fn := fun _ => fun
  | [d1, d2] => { results := [.lit (.bool false)], args := [d1, d2] }
  | _ => none }
def SideFairWrongFalsely : Prop := sideFairRow.holds Try.pinned (OpenSpec.ofChange sideFairWrong)

/-- 'broadsidelaw06.SideNone': WHATEVER THE INPUT: true; the input reads as it did. -/
def sideNoneSpec : ChangeSpec := { name := "sideNone", fn := fun _ => fun
  | [d1, d2] => { results := [.lit (.bool true)], args := [d1, d2] }
  | _ => none }
def sideNoneRow : OpenClaim := { program := "ytobokknfpjjdeaa", sum := "50f648e78d61f9b71f00ad267b82c2ad222d4d0aff0092222cce219fa76b5fbf", func := "broadside/broadsidelaw06.SideNone", spec := "sideNone", inPlace := ["slices.overlaps[broadside/api.Order]"], unfollowed := true, recurses := true, apart := false }
def SideNoneSaid : Prop := sideNoneRow.holds Try.pinned (OpenSpec.ofChange sideNoneSpec)

/-- ITS FALSE NEIGHBOUR: 'it returns false'. Refute it at one input. -/
def sideNoneWrong : ChangeSpec := { name := "sideNone", fn := fun _ => fun
  | [d1, d2] => { results := [.lit (.bool false)], args := [d1, d2] }
  | _ => none }
def SideNoneWrongFalsely : Prop := sideNoneRow.holds Try.pinned (OpenSpec.ofChange sideNoneWrong)

/-- 'broadsidelaw05.CalendarOrder': WHATEVER THE INPUT: true; the input reads as it did. -/
def calendarOrderSpec : ChangeSpec := { name := "calendarOrder", fn := fun _ => fun
  | [d1, d2, d3] => { results := [.lit (.bool true)], args := [d1, d2, d3] }
  | _ => none }
def calendarOrderRow : OpenClaim := { program := "ytobokknfpjjdeaa", sum := "50f648e78d61f9b71f00ad267b82c2ad222d4d0aff0092222cce219fa76b5fbf", func := "broadside/broadsidelaw05.CalendarOrder", spec := "calendarOrder", inPlace := ["slices.overlaps[broadside/api.Contract]"], unfollowed := true, recurses := true, apart := false }
def CalendarOrderSaid : Prop := calendarOrderRow.holds Try.pinned (OpenSpec.ofChange calendarOrderSpec)

/-- ITS FALSE NEIGHBOUR: 'it returns false'. Refute it at one input. -/
def calendarOrderWrong : ChangeSpec := { name := "calendarOrder", fn := fun _ => fun
  | [d1, d2, d3] => { results := [.lit (.bool false)], args := [d1, d2, d3] }
  | _ => none }
def CalendarOrderWrongFalsely : Prop := calendarOrderRow.holds Try.pinned (OpenSpec.ofChange calendarOrderWrong)

/-- 'broadsidelaw05.CalendarFrom': WHATEVER THE INPUT: true; the input reads as it did. -/
def calendarFromSpec : ChangeSpec := { name := "calendarFrom", fn := fun _ => fun
  | [d1, d2] => { results := [.lit (.bool true)], args := [d1, d2] }
  | _ => none }
def calendarFromRow : OpenClaim := { program := "ytobokknfpjjdeaa", sum := "50f648e78d61f9b71f00ad267b82c2ad222d4d0aff0092222cce219fa76b5fbf", func := "broadside/broadsidelaw05.CalendarFrom", spec := "calendarFrom", inPlace := ["slices.overlaps[broadside/api.Contract]"], unfollowed := true, recurses := true, apart := false }
def CalendarFromSaid : Prop := calendarFromRow.holds Try.pinned (OpenSpec.ofChange calendarFromSpec)

/-- ITS FALSE NEIGHBOUR: 'it returns false'. Refute it at one input. -/
def calendarFromWrong : ChangeSpec := { name := "calendarFrom", fn := fun _ => fun
  | [d1, d2] => { results := [.lit (.bool false)], args := [d1, d2] }
  | _ => none }
def CalendarFromWrongFalsely : Prop := calendarFromRow.holds Try.pinned (OpenSpec.ofChange calendarFromWrong)

/-- 'broadsidelaw05.CalendarApart': WHATEVER THE INPUT: true; the input reads as it did. -/
def calendarApartSpec : ChangeSpec := { name := "calendarApart", fn := fun _ => fun
  | [d1, d2, d3] => { results := [.lit (.bool true)], args := [d1, d2, d3] }
  | _ => none }
def calendarApartRow : OpenClaim := { program := "ytobokknfpjjdeaa", sum := "50f648e78d61f9b71f00ad267b82c2ad222d4d0aff0092222cce219fa76b5fbf", func := "broadside/broadsidelaw05.CalendarApart", spec := "calendarApart", inPlace := ["slices.overlaps[broadside/api.Contract]"], unfollowed := true, recurses := true, apart := false }
def CalendarApartSaid : Prop := calendarApartRow.holds Try.pinned (OpenSpec.ofChange calendarApartSpec)

/-- ITS FALSE NEIGHBOUR: 'it returns false'. Refute it at one input. -/
def calendarApartWrong : ChangeSpec := { name := "calendarApart", fn := fun _ => fun
  | [d1, d2, d3] => { results := [.lit (.bool false)], args := [d1, d2, d3] }
  | _ => none }
def CalendarApartWrongFalsely : Prop := calendarApartRow.holds Try.pinned (OpenSpec.ofChange calendarApartWrong)

/-- 'broadsidelaw05.CalendarPlays': WHATEVER THE INPUT: true; the input reads as it did. -/
def calendarPlaysSpec : ChangeSpec := { name := "calendarPlays", fn := fun _ => fun
  | [d] => { results := [.lit (.bool true)], args := [d] }
  | _ => none }
def calendarPlaysRow : OpenClaim := { program := "ytobokknfpjjdeaa", sum := "50f648e78d61f9b71f00ad267b82c2ad222d4d0aff0092222cce219fa76b5fbf", func := "broadside/broadsidelaw05.CalendarPlays", spec := "calendarPlays", inPlace := ["slices.overlaps[broadside/api.Contract]"], unfollowed := true, recurses := true, apart := false }
def CalendarPlaysSaid : Prop := calendarPlaysRow.holds Try.pinned (OpenSpec.ofChange calendarPlaysSpec)

/-- ITS FALSE NEIGHBOUR: 'it returns false'. Refute it at one input. -/
def calendarPlaysWrong : ChangeSpec := { name := "calendarPlays", fn := fun _ => fun
  | [d] => { results := [.lit (.bool false)], args := [d] }
  | _ => none }
def CalendarPlaysWrongFalsely : Prop := calendarPlaysRow.holds Try.pinned (OpenSpec.ofChange calendarPlaysWrong)

/-- 'broadsidelaw05.CalendarNone': WHATEVER THE INPUT: true; the input reads as it did. -/
def calendarNoneSpec : ChangeSpec := { name := "calendarNone", fn := fun _ => fun
  | [d1, d2, d3] => { results := [.lit (.bool true)], args := [d1, d2, d3] }
  | _ => none }
def calendarNoneRow : OpenClaim := { program := "ytobokknfpjjdeaa", sum := "50f648e78d61f9b71f00ad267b82c2ad222d4d0aff0092222cce219fa76b5fbf", func := "broadside/broadsidelaw05.CalendarNone", spec := "calendarNone", inPlace := ["slices.overlaps[broadside/api.Contract]"], unfollowed := true, recurses := true, apart := false }
def CalendarNoneSaid : Prop := calendarNoneRow.holds Try.pinned (OpenSpec.ofChange calendarNoneSpec)

/-- ITS FALSE NEIGHBOUR: 'it returns false'. Refute it at one input. -/
def calendarNoneWrong : ChangeSpec := { name := "calendarNone", fn := fun _ => fun
  | [d1, d2, d3] => { results := [.lit (.bool false)], args := [d1, d2, d3] }
  | _ => none }
def CalendarNoneWrongFalsely : Prop := calendarNoneRow.holds Try.pinned (OpenSpec.ofChange calendarNoneWrong)

/- THE SECOND FORM. 'bulk': how many values and letters a reading holds, each counted each time it is reached (what is shared counts as often as it is met; a slice's spare places count too). A statement '..UptoSaid' is the law's where the arguments, and the package variables that the reading takes, are together of bulk at most 1048576: NARROWER than '..Said'. Prove '..Said' where nothing that the law and all that it calls make is longer than what came in: it says more and counts as full. Else prove '..UptoSaid'. A law counts once. -/
mutual
def uptoBulk {H : Type} : DataW H → Nat
  | .lit (.string bytes) => bytes.length + 1
  | .lit _ => 1
  | .nil => 1
  | .ptr d => uptoBulk d + 1
  | .slice elems spare => uptoBulkAll elems + uptoBulkAll spare + 1
  | .agg parts => uptoBulkAll parts + 1
  | .iface _ d => uptoBulk d + 1
  | .map entries => uptoBulkEntries entries + 1
  | .held _ => 1
def uptoBulkAll {H : Type} : List (DataW H) → Nat
  | [] => 0
  | d :: r => uptoBulk d + uptoBulkAll r
def uptoBulkEntries {H : Type} : List (Lit × DataW H) → Nat
  | [] => 0
  | x :: r => uptoBulkEntry x + uptoBulkEntries r
def uptoBulkEntry {H : Type} : Lit × DataW H → Nat
  | (.string bytes, d) => bytes.length + uptoBulk d + 1
  | (_, d) => uptoBulk d + 1
 end
def uptoSmall : (H : Type) → List (DataW H) → Bool := fun _ ds => decide (uptoBulkAll ds ≤ 1048576)
def OpenSpec.upto (s : _root_.Go.ChangeSpec) : _root_.Go.OpenSpec := { _root_.Go.OpenSpec.ofChange s with cond := some uptoSmall }

/-- 'broadsidelaw06.SideReach', WHERE WHAT IT READS IS OF BULK AT MOST 1048576: true; the input reads as it did. -/
def sideReachUptoRow : OpenClaim := { program := "ytobokknfpjjdeaa", sum := "50f648e78d61f9b71f00ad267b82c2ad222d4d0aff0092222cce219fa76b5fbf", func := "broadside/broadsidelaw06.SideReach", spec := "sideReach", inPlace := ["slices.overlaps[broadside/api.Order]"], unfollowed := true, recurses := true, apart := false, narrowed := true }
def SideReachUptoSaid : Prop := sideReachUptoRow.holds Try.pinned (OpenSpec.upto sideReachSpec)

/-- 'broadsidelaw06.SideFair', WHERE WHAT IT READS IS OF BULK AT MOST 1048576: true; the input reads as it did. -/
def sideFairUptoRow : OpenClaim := { program := "ytobokknfpjjdeaa", sum := "50f648e78d61f9b71f00ad267b82c2ad222d4d0aff0092222cce219fa76b5fbf", func := "broadside/broadsidelaw06.SideFair", spec := "sideFair", inPlace := ["slices.overlaps[broadside/api.Order]"], unfollowed := true, recurses := true, apart := false, narrowed := true }
def SideFairUptoSaid : Prop := sideFairUptoRow.holds Try.pinned (OpenSpec.upto sideFairSpec)

/-- 'broadsidelaw06.SideNone', WHERE WHAT IT READS IS OF BULK AT MOST 1048576: true; the input reads as it did. -/
def sideNoneUptoRow : OpenClaim := { program := "ytobokknfpjjdeaa", sum := "50f648e78d61f9b71f00ad267b82c2ad222d4d0aff0092222cce219fa76b5fbf", func := "broadside/broadsidelaw06.SideNone", spec := "sideNone", inPlace := ["slices.overlaps[broadside/api.Order]"], unfollowed := true, recurses := true, apart := false, narrowed := true }
def SideNoneUptoSaid : Prop := sideNoneUptoRow.holds Try.pinned (OpenSpec.upto sideNoneSpec)

/-- 'broadsidelaw05.CalendarOrder', WHERE WHAT IT READS IS OF BULK AT MOST 1048576: true; the input reads as it did. -/
def calendarOrderUptoRow : OpenClaim := { program := "ytobokknfpjjdeaa", sum := "50f648e78d61f9b71f00ad267b82c2ad222d4d0aff0092222cce219fa76b5fbf", func := "broadside/broadsidelaw05.CalendarOrder", spec := "calendarOrder", inPlace := ["slices.overlaps[broadside/api.Contract]"], unfollowed := true, recurses := true, apart := false, narrowed := true }
def CalendarOrderUptoSaid : Prop := calendarOrderUptoRow.holds Try.pinned (OpenSpec.upto calendarOrderSpec)

/-- 'broadsidelaw05.CalendarFrom', WHERE WHAT IT READS IS OF BULK AT MOST 1048576: true; the input reads as it did. -/
def calendarFromUptoRow : OpenClaim := { program := "ytobokknfpjjdeaa", sum := "50f648e78d61f9b71f00ad267b82c2ad222d4d0aff0092222cce219fa76b5fbf", func := "broadside/broadsidelaw05.CalendarFrom", spec := "calendarFrom", inPlace := ["slices.overlaps[broadside/api.Contract]"], unfollowed := true, recurses := true, apart := false, narrowed := true }
def CalendarFromUptoSaid : Prop := calendarFromUptoRow.holds Try.pinned (OpenSpec.upto calendarFromSpec)

/-- 'broadsidelaw05.CalendarApart', WHERE WHAT IT READS IS OF BULK AT MOST 1048576: true; the input reads as it did. -/
def calendarApartUptoRow : OpenClaim := { program := "ytobokknfpjjdeaa", sum := "50f648e78d61f9b71f00ad267b82c2ad222d4d0aff0092222cce219fa76b5fbf", func := "broadside/broadsidelaw05.CalendarApart", spec := "calendarApart", inPlace := ["slices.overlaps[broadside/api.Contract]"], unfollowed := true, recurses := true, apart := false, narrowed := true }
def CalendarApartUptoSaid : Prop := calendarApartUptoRow.holds Try.pinned (OpenSpec.upto calendarApartSpec)

/-- 'broadsidelaw05.CalendarPlays', WHERE WHAT IT READS IS OF BULK AT MOST 1048576: true; the input reads as it did. -/
def calendarPlaysUptoRow : OpenClaim := { program := "ytobokknfpjjdeaa", sum := "50f648e78d61f9b71f00ad267b82c2ad222d4d0aff0092222cce219fa76b5fbf", func := "broadside/broadsidelaw05.CalendarPlays", spec := "calendarPlays", inPlace := ["slices.overlaps[broadside/api.Contract]"], unfollowed := true, recurses := true, apart := false, narrowed := true }
def CalendarPlaysUptoSaid : Prop := calendarPlaysUptoRow.holds Try.pinned (OpenSpec.upto calendarPlaysSpec)

/-- 'broadsidelaw05.CalendarNone', WHERE WHAT IT READS IS OF BULK AT MOST 1048576: true; the input reads as it did. -/
def calendarNoneUptoRow : OpenClaim := { program := "ytobokknfpjjdeaa", sum := "50f648e78d61f9b71f00ad267b82c2ad222d4d0aff0092222cce219fa76b5fbf", func := "broadside/broadsidelaw05.CalendarNone", spec := "calendarNone", inPlace := ["slices.overlaps[broadside/api.Contract]"], unfollowed := true, recurses := true, apart := false, narrowed := true }
def CalendarNoneUptoSaid : Prop := calendarNoneUptoRow.holds Try.pinned (OpenSpec.upto calendarNoneSpec)

end Rows
end Go.Proofs.Ytobokknfpjjdeaa
