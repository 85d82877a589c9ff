/-
  No cell of these rows narrows 'for every input' (looked for: loops, veiled, ifaces, maps, wideKeys, modest, calm, conditions, laid).
  DERIVED. THE GIVEN ROWS OF THIS SEAT. 9 by the template 'for every input the law returns true; each argument reads behind the call as it read before'; 0 by the template 'total and deterministic' (their statements: YtehjmmedghcndaaTotals.lean).
  GIVEN WITH THE SEED: the statements are not yours to turn. If you find one false, say at which input.
  Laid BY PROGRAM, IN A SANDBOX (cutbox-rows.mjs): the forced cells as the released guide's own fill.sh prints them over the translation e38918f2d4b3000f… (all of the seat's roots in one cut). By AI agents, Wed Nov 11 2026. No macro, syntax, notation, axiom, sorry.
-/
import Derived.Test.YtehjmmedghcndaaChecked
import GoSem.Claim
import GoSem.ClaimJoined
import GoSem.ClaimMapViews
import Derived.JoinedTies
import Derived.KernelRfl
namespace Go.Proofs.Ytehjmmedghcndaa
/- THE CELL 'sum', in the pinned program and in every row, IS THE sha256 OF THE DUMP (.gsa) THAT YtehjmmedghcndaaProg.lean LOADS. Nothing in Lean hashes anything: it is a label: what it is worth is what the hold of that sum in a sandbox is worth. -/
noncomputable def Try.pinned : Pinned := { name := "ytehjmmedghcndaa", sum := "e38918f2d4b3000f07f0dcf593783198d1f043a00c889eee43f29727069eacd3", checked := Try.checked }
namespace Rows
def none {H : Type} : Left H := { results := [], args := [] }

/-- 'selvedgelaw18.CylTakes': WHATEVER THE INPUT: true; the input reads as it did. -/
def cylTakesSpec : ChangeSpec := { name := "cylTakes", fn := fun _ => fun
  | [d1, d2] => { results := [.lit (.bool true)], args := [d1, d2] }
  | _ => none }
def cylTakesRow : OpenClaim := { program := "ytehjmmedghcndaa", sum := "e38918f2d4b3000f07f0dcf593783198d1f043a00c889eee43f29727069eacd3", func := "selvedge/selvedgelaw18.CylTakes", spec := "cylTakes", inPlace := ["slices.overlaps[int]"], unfollowed := true, recurses := true, apart := false }
def CylTakesSaid : Prop := cylTakesRow.holds Try.pinned (OpenSpec.ofChange cylTakesSpec)

/-- ITS FALSE NEIGHBOUR: 'it returns false'. Refute it at one input. -/
def cylTakesWrong : ChangeSpec := { name := "cylTakes", fn := fun _ => fun
  | [d1, d2] => { results := [.lit (.bool false)], args := [d1, d2] }
  | _ => none }
def CylTakesWrongFalsely : Prop := cylTakesRow.holds Try.pinned (OpenSpec.ofChange cylTakesWrong)

/-- 'selvedgelaw18.CylSpreads': WHATEVER THE INPUT: true; the input reads as it did. -/
def cylSpreadsSpec : ChangeSpec := { name := "cylSpreads", fn := fun _ => fun
  | [d1, d2, d3] => { results := [.lit (.bool true)], args := [d1, d2, d3] }
  | _ => none }
def cylSpreadsRow : OpenClaim := { program := "ytehjmmedghcndaa", sum := "e38918f2d4b3000f07f0dcf593783198d1f043a00c889eee43f29727069eacd3", func := "selvedge/selvedgelaw18.CylSpreads", spec := "cylSpreads", inPlace := ["slices.overlaps[int]"], unfollowed := true, recurses := true, apart := false }
def CylSpreadsSaid : Prop := cylSpreadsRow.holds Try.pinned (OpenSpec.ofChange cylSpreadsSpec)

/-- ITS FALSE NEIGHBOUR: 'it returns false'. Refute it at one input. -/
def cylSpreadsWrong : ChangeSpec := { name := "cylSpreads", fn := fun _ => fun
  | [d1, d2, d3] => { results := [.lit (.bool false)], args := [d1, d2, d3] }
  | _ => none }
def CylSpreadsWrongFalsely : Prop := cylSpreadsRow.holds Try.pinned (OpenSpec.ofChange cylSpreadsWrong)

/-- 'selvedgelaw18.CylFresh': WHATEVER THE INPUT: true; the input reads as it did. -/
def cylFreshSpec : ChangeSpec := { name := "cylFresh", fn := fun _ => fun
  | [d1, d2, d3] => { results := [.lit (.bool true)], args := [d1, d2, d3] }
  | _ => none }
def cylFreshRow : OpenClaim := { program := "ytehjmmedghcndaa", sum := "e38918f2d4b3000f07f0dcf593783198d1f043a00c889eee43f29727069eacd3", func := "selvedge/selvedgelaw18.CylFresh", spec := "cylFresh", inPlace := ["slices.overlaps[int]"], unfollowed := true, recurses := true, apart := false }
def CylFreshSaid : Prop := cylFreshRow.holds Try.pinned (OpenSpec.ofChange cylFreshSpec)

/-- ITS FALSE NEIGHBOUR: 'it returns false'. Refute it at one input. -/
def cylFreshWrong : ChangeSpec := { name := "cylFresh", fn := fun _ => fun
  | [d1, d2, d3] => { results := [.lit (.bool false)], args := [d1, d2, d3] }
  | _ => none }
def CylFreshWrongFalsely : Prop := cylFreshRow.holds Try.pinned (OpenSpec.ofChange cylFreshWrong)

/-- 'selvedgelaw18.CylCounts': WHATEVER THE INPUT: true; the input reads as it did. -/
def cylCountsSpec : ChangeSpec := { name := "cylCounts", fn := fun _ => fun
  | [d1, d2] => { results := [.lit (.bool true)], args := [d1, d2] }
  | _ => none }
def cylCountsRow : OpenClaim := { program := "ytehjmmedghcndaa", sum := "e38918f2d4b3000f07f0dcf593783198d1f043a00c889eee43f29727069eacd3", func := "selvedge/selvedgelaw18.CylCounts", spec := "cylCounts", inPlace := ["slices.overlaps[int]"], unfollowed := true, recurses := true, apart := false }
def CylCountsSaid : Prop := cylCountsRow.holds Try.pinned (OpenSpec.ofChange cylCountsSpec)

/-- ITS FALSE NEIGHBOUR: 'it returns false'. Refute it at one input. -/
def cylCountsWrong : ChangeSpec := { name := "cylCounts", fn := fun _ => fun
  | [d1, d2] => { results := [.lit (.bool false)], args := [d1, d2] }
  | _ => none }
def CylCountsWrongFalsely : Prop := cylCountsRow.holds Try.pinned (OpenSpec.ofChange cylCountsWrong)

/-- 'selvedgelaw18.CylCodes': WHATEVER THE INPUT: true; the input reads as it did. -/
def cylCodesSpec : ChangeSpec := { name := "cylCodes", fn := fun _ => fun
  | [d1, d2, d3] => { results := [.lit (.bool true)], args := [d1, d2, d3] }
  | _ => none }
def cylCodesRow : OpenClaim := { program := "ytehjmmedghcndaa", sum := "e38918f2d4b3000f07f0dcf593783198d1f043a00c889eee43f29727069eacd3", func := "selvedge/selvedgelaw18.CylCodes", spec := "cylCodes", inPlace := ["slices.overlaps[int]"], unfollowed := true, recurses := true, apart := false }
def CylCodesSaid : Prop := cylCodesRow.holds Try.pinned (OpenSpec.ofChange cylCodesSpec)

/-- ITS FALSE NEIGHBOUR: 'it returns false'. Refute it at one input. -/
def cylCodesWrong : ChangeSpec := { name := "cylCodes", fn := fun _ => fun
  | [d1, d2, d3] => { results := [.lit (.bool false)], args := [d1, d2, d3] }
  | _ => none }
def CylCodesWrongFalsely : Prop := cylCodesRow.holds Try.pinned (OpenSpec.ofChange cylCodesWrong)

/-- 'selvedgelaw18.CylBack': WHATEVER THE INPUT: true; the input reads as it did. -/
def cylBackSpec : ChangeSpec := { name := "cylBack", fn := fun _ => fun
  | [d1, d2, d3] => { results := [.lit (.bool true)], args := [d1, d2, d3] }
  | _ => none }
def cylBackRow : OpenClaim := { program := "ytehjmmedghcndaa", sum := "e38918f2d4b3000f07f0dcf593783198d1f043a00c889eee43f29727069eacd3", func := "selvedge/selvedgelaw18.CylBack", spec := "cylBack", inPlace := ["slices.overlaps[int]"], unfollowed := true, recurses := true, apart := false }
def CylBackSaid : Prop := cylBackRow.holds Try.pinned (OpenSpec.ofChange cylBackSpec)

/-- ITS FALSE NEIGHBOUR: 'it returns false'. Refute it at one input. -/
def cylBackWrong : ChangeSpec := { name := "cylBack", fn := fun _ => fun
  | [d1, d2, d3] => { results := [.lit (.bool false)], args := [d1, d2, d3] }
  | _ => none }
def CylBackWrongFalsely : Prop := cylBackRow.holds Try.pinned (OpenSpec.ofChange cylBackWrong)

/-- 'selvedgelaw18.CylFound': WHATEVER THE INPUT: true; the input reads as it did. -/
def cylFoundSpec : ChangeSpec := { name := "cylFound", fn := fun _ => fun
  | [d1, d2, d3] => { results := [.lit (.bool true)], args := [d1, d2, d3] }
  | _ => none }
def cylFoundRow : OpenClaim := { program := "ytehjmmedghcndaa", sum := "e38918f2d4b3000f07f0dcf593783198d1f043a00c889eee43f29727069eacd3", func := "selvedge/selvedgelaw18.CylFound", spec := "cylFound", inPlace := ["slices.overlaps[int]"], unfollowed := true, recurses := true, apart := false }
def CylFoundSaid : Prop := cylFoundRow.holds Try.pinned (OpenSpec.ofChange cylFoundSpec)

/-- ITS FALSE NEIGHBOUR: 'it returns false'. Refute it at one input. -/
def cylFoundWrong : ChangeSpec := { name := "cylFound", fn := fun _ => fun
  | [d1, d2, d3] => { results := [.lit (.bool false)], args := [d1, d2, d3] }
  | _ => none }
def CylFoundWrongFalsely : Prop := cylFoundRow.holds Try.pinned (OpenSpec.ofChange cylFoundWrong)

/-- 'selvedgelaw18.CylInodes': WHATEVER THE INPUT: true; the input reads as it did. -/
def cylInodesSpec : ChangeSpec := { name := "cylInodes", fn := fun _ => fun
  | [d1, d2, d3] => { results := [.lit (.bool true)], args := [d1, d2, d3] }
  | _ => none }
def cylInodesRow : OpenClaim := { program := "ytehjmmedghcndaa", sum := "e38918f2d4b3000f07f0dcf593783198d1f043a00c889eee43f29727069eacd3", func := "selvedge/selvedgelaw18.CylInodes", spec := "cylInodes", inPlace := ["slices.overlaps[int]"], unfollowed := true, recurses := true, apart := false }
def CylInodesSaid : Prop := cylInodesRow.holds Try.pinned (OpenSpec.ofChange cylInodesSpec)

/-- ITS FALSE NEIGHBOUR: 'it returns false'. Refute it at one input. -/
def cylInodesWrong : ChangeSpec := { name := "cylInodes", fn := fun _ => fun
  | [d1, d2, d3] => { results := [.lit (.bool false)], args := [d1, d2, d3] }
  | _ => none }
def CylInodesWrongFalsely : Prop := cylInodesRow.holds Try.pinned (OpenSpec.ofChange cylInodesWrong)

/-- 'selvedgetop.TopNeighbours': WHATEVER THE INPUT: true; the input reads as it did. -/
def topNeighboursSpec : ChangeSpec := { name := "topNeighbours", fn := fun _ => fun
  | [d1, d2] => { results := [.lit (.bool true)], args := [d1, d2] }
  | _ => none }
def topNeighboursRow : OpenClaim := { program := "ytehjmmedghcndaa", sum := "e38918f2d4b3000f07f0dcf593783198d1f043a00c889eee43f29727069eacd3", func := "selvedge/selvedgetop.TopNeighbours", spec := "topNeighbours", inPlace := ["slices.overlaps[int]"], unfollowed := true, recurses := true, apart := false }
def TopNeighboursSaid : Prop := topNeighboursRow.holds Try.pinned (OpenSpec.ofChange topNeighboursSpec)

/-- ITS FALSE NEIGHBOUR: 'it returns false'. Refute it at one input. -/
def topNeighboursWrong : ChangeSpec := { name := "topNeighbours", fn := fun _ => fun
  | [d1, d2] => { results := [.lit (.bool false)], args := [d1, d2] }
  | _ => none }
def TopNeighboursWrongFalsely : Prop := topNeighboursRow.holds Try.pinned (OpenSpec.ofChange topNeighboursWrong)

/- THE SECOND FORM. 'bulk': how many values and letters a reading holds, each counted each time it is reached (what is shared counts as often as it is met; a slice's spare places count too). A statement '..UptoSaid' is the law's where the arguments, and the package variables that the reading takes, are together of bulk at most 1048576: NARROWER than '..Said'. Prove '..Said' where nothing that the law and all that it calls make is longer than what came in: it says more and counts as full. Else prove '..UptoSaid'. A law counts once. -/
mutual
def uptoBulk {H : Type} : DataW H → Nat
  | .lit (.string bytes) => bytes.length + 1
  | .lit _ => 1
  | .nil => 1
  | .ptr d => uptoBulk d + 1
  | .slice elems spare => uptoBulkAll elems + uptoBulkAll spare + 1
  | .agg parts => uptoBulkAll parts + 1
  | .iface _ d => uptoBulk d + 1
  | .map entries => uptoBulkEntries entries + 1
  | .held _ => 1
def uptoBulkAll {H : Type} : List (DataW H) → Nat
  | [] => 0
  | d :: r => uptoBulk d + uptoBulkAll r
def uptoBulkEntries {H : Type} : List (Lit × DataW H) → Nat
  | [] => 0
  | x :: r => uptoBulkEntry x + uptoBulkEntries r
def uptoBulkEntry {H : Type} : Lit × DataW H → Nat
  | (.string bytes, d) => bytes.length + uptoBulk d + 1
  | (_, d) => uptoBulk d + 1
 end
def uptoSmall : (H : Type) → List (DataW H) → Bool := fun _ ds => decide (uptoBulkAll ds ≤ 1048576)
def OpenSpec.upto (s : _root_.Go.ChangeSpec) : _root_.Go.OpenSpec := { _root_.Go.OpenSpec.ofChange s with cond := some uptoSmall }

/-- 'selvedgelaw18.CylTakes', WHERE WHAT IT READS IS OF BULK AT MOST 1048576: true; the input reads as it did. -/
def cylTakesUptoRow : OpenClaim := { program := "ytehjmmedghcndaa", sum := "e38918f2d4b3000f07f0dcf593783198d1f043a00c889eee43f29727069eacd3", func := "selvedge/selvedgelaw18.CylTakes", spec := "cylTakes", inPlace := ["slices.overlaps[int]"], unfollowed := true, recurses := true, apart := false, narrowed := true }
def CylTakesUptoSaid : Prop := cylTakesUptoRow.holds Try.pinned (OpenSpec.upto cylTakesSpec)

/-- 'selvedgelaw18.CylSpreads', WHERE WHAT IT READS IS OF BULK AT MOST 1048576: true; the input reads as it did. -/
def cylSpreadsUptoRow : OpenClaim := { program := "ytehjmmedghcndaa", sum := "e38918f2d4b3000f07f0dcf593783198d1f043a00c889eee43f29727069eacd3", func := "selvedge/selvedgelaw18.CylSpreads", spec := "cylSpreads", inPlace := ["slices.overlaps[int]"], unfollowed := true, recurses := true, apart := false, narrowed := true }
def CylSpreadsUptoSaid : Prop := cylSpreadsUptoRow.holds Try.pinned (OpenSpec.upto cylSpreadsSpec)

/-- 'selvedgelaw18.CylFresh', WHERE WHAT IT READS IS OF BULK AT MOST 1048576: true; the input reads as it did. -/
def cylFreshUptoRow : OpenClaim := { program := "ytehjmmedghcndaa", sum := "e38918f2d4b3000f07f0dcf593783198d1f043a00c889eee43f29727069eacd3", func := "selvedge/selvedgelaw18.CylFresh", spec := "cylFresh", inPlace := ["slices.overlaps[int]"], unfollowed := true, recurses := true, apart := false, narrowed := true }
def CylFreshUptoSaid : Prop := cylFreshUptoRow.holds Try.pinned (OpenSpec.upto cylFreshSpec)

/-- 'selvedgelaw18.CylCounts', WHERE WHAT IT READS IS OF BULK AT MOST 1048576: true; the input reads as it did. -/
def cylCountsUptoRow : OpenClaim := { program := "ytehjmmedghcndaa", sum := "e38918f2d4b3000f07f0dcf593783198d1f043a00c889eee43f29727069eacd3", func := "selvedge/selvedgelaw18.CylCounts", spec := "cylCounts", inPlace := ["slices.overlaps[int]"], unfollowed := true, recurses := true, apart := false, narrowed := true }
def CylCountsUptoSaid : Prop := cylCountsUptoRow.holds Try.pinned (OpenSpec.upto cylCountsSpec)

/-- 'selvedgelaw18.CylCodes', WHERE WHAT IT READS IS OF BULK AT MOST 1048576: true; the input reads as it did. -/
def cylCodesUptoRow : OpenClaim := { program := "ytehjmmedghcndaa", sum := "e38918f2d4b3000f07f0dcf593783198d1f043a00c889eee43f29727069eacd3", func := "selvedge/selvedgelaw18.CylCodes", spec := "cylCodes", inPlace := ["slices.overlaps[int]"], unfollowed := true, recurses := true, apart := false, narrowed := true }
def CylCodesUptoSaid : Prop := cylCodesUptoRow.holds Try.pinned (OpenSpec.upto cylCodesSpec)

/-- 'selvedgelaw18.CylBack', WHERE WHAT IT READS IS OF BULK AT MOST 1048576: true; the input reads as it did. -/
def cylBackUptoRow : OpenClaim := { program := "ytehjmmedghcndaa", sum := "e38918f2d4b3000f07f0dcf593783198d1f043a00c889eee43f29727069eacd3", func := "selvedge/selvedgelaw18.CylBack", spec := "cylBack", inPlace := ["slices.overlaps[int]"], unfollowed := true, recurses := true, apart := false, narrowed := true }
def CylBackUptoSaid : Prop := cylBackUptoRow.holds Try.pinned (OpenSpec.upto cylBackSpec)

/-- 'selvedgelaw18.CylFound', WHERE WHAT IT READS IS OF BULK AT MOST 1048576: true; the input reads as it did. -/
def cylFoundUptoRow : OpenClaim := { program := "ytehjmmedghcndaa", sum := "e38918f2d4b3000f07f0dcf593783198d1f043a00c889eee43f29727069eacd3", func := "selvedge/selvedgelaw18.CylFound", spec := "cylFound", inPlace := ["slices.overlaps[int]"], unfollowed := true, recurses := true, apart := false, narrowed := true }
def CylFoundUptoSaid : Prop := cylFoundUptoRow.holds Try.pinned (OpenSpec.upto cylFoundSpec)

/-- 'selvedgelaw18.CylInodes', WHERE WHAT IT READS IS OF BULK AT MOST 1048576: true; the input reads as it did. -/
def cylInodesUptoRow : OpenClaim := { program := "ytehjmmedghcndaa", sum := "e38918f2d4b3000f07f0dcf593783198d1f043a00c889eee43f29727069eacd3", func := "selvedge/selvedgelaw18.CylInodes", spec := "cylInodes", inPlace := ["slices.overlaps[int]"], unfollowed := true, recurses := true, apart := false, narrowed := true }
def CylInodesUptoSaid : Prop := cylInodesUptoRow.holds Try.pinned (OpenSpec.upto cylInodesSpec)

/-- 'selvedgetop.TopNeighbours', WHERE WHAT IT READS IS OF BULK AT MOST 1048576: true; the input reads as it did. -/
def topNeighboursUptoRow : OpenClaim := { program := "ytehjmmedghcndaa", sum := "e38918f2d4b3000f07f0dcf593783198d1f043a00c889eee43f29727069eacd3", func := "selvedge/selvedgetop.TopNeighbours", spec := "topNeighbours", inPlace := ["slices.overlaps[int]"], unfollowed := true, recurses := true, apart := false, narrowed := true }
def TopNeighboursUptoSaid : Prop := topNeighboursUptoRow.holds Try.pinned (OpenSpec.upto topNeighboursSpec)

end Rows
end Go.Proofs.Ytehjmmedghcndaa
