/-
  No cell of these rows narrows 'for every input' (looked for: loops, veiled, ifaces, maps, wideKeys, modest, calm, conditions, laid).
  DERIVED. THE GIVEN ROWS OF THIS SEAT. 8 by the template 'for every input the law returns true; each argument reads behind the call as it read before'; 0 by the template 'total and deterministic' (their statements: YteodjknknpdmeaaTotals.lean).
  GIVEN WITH THE SEED: the statements are not yours to turn. If you find one false, say at which input.
  Laid BY PROGRAM, IN A SANDBOX (cutbox-rows.mjs): the forced cells as the released guide's own fill.sh prints them over the translation e6cdcc904a89746f… (all of the seat's roots in one cut). By AI agents, Wed Nov 11 2026. No macro, syntax, notation, axiom, sorry.
-/
import Derived.Test.YteodjknknpdmeaaChecked
import GoSem.Claim
import GoSem.ClaimJoined
import GoSem.ClaimMapViews
import Derived.JoinedTies
import Derived.KernelRfl
namespace Go.Proofs.Yteodjknknpdmeaa
/- THE CELL 'sum', in the pinned program and in every row, IS THE sha256 OF THE DUMP (.gsa) THAT YteodjknknpdmeaaProg.lean LOADS. Nothing in Lean hashes anything: it is a label: what it is worth is what the hold of that sum in a sandbox is worth. -/
noncomputable def Try.pinned : Pinned := { name := "yteodjknknpdmeaa", sum := "e6cdcc904a89746fc6d6a53ab049e60edce533c649f85b1da12d3e4df80ac50d", checked := Try.checked }
namespace Rows
def none {H : Type} : Left H := { results := [], args := [] }

/-- 'selvedgelaw02.BitsetSets': WHATEVER THE INPUT: true; the input reads as it did. -/
def bitsetSetsSpec : ChangeSpec := { name := "bitsetSets", fn := fun _ => fun
  | [d1, d2, d3] => { results := [.lit (.bool true)], args := [d1, d2, d3] }
  | _ => none }
def bitsetSetsRow : OpenClaim := { program := "yteodjknknpdmeaa", sum := "e6cdcc904a89746fc6d6a53ab049e60edce533c649f85b1da12d3e4df80ac50d", func := "selvedge/selvedgelaw02.BitsetSets", spec := "bitsetSets", unfollowed := true, recurses := true, apart := false }
def BitsetSetsSaid : Prop := bitsetSetsRow.holds Try.pinned (OpenSpec.ofChange bitsetSetsSpec)

/-- ITS FALSE NEIGHBOUR: 'it returns false'. Refute it at one input. -/
def bitsetSetsWrong : ChangeSpec := { name := "bitsetSets", fn := fun _ => fun
  | [d1, d2, d3] => { results := [.lit (.bool false)], args := [d1, d2, d3] }
  | _ => none }
def BitsetSetsWrongFalsely : Prop := bitsetSetsRow.holds Try.pinned (OpenSpec.ofChange bitsetSetsWrong)

/-- 'selvedgelaw02.BitsetOthers': WHATEVER THE INPUT: true; the input reads as it did. -/
def bitsetOthersSpec : ChangeSpec := { name := "bitsetOthers", fn := fun _ => fun
  | [d1, d2, d3] => { results := [.lit (.bool true)], args := [d1, d2, d3] }
  | _ => none }
def bitsetOthersRow : OpenClaim := { program := "yteodjknknpdmeaa", sum := "e6cdcc904a89746fc6d6a53ab049e60edce533c649f85b1da12d3e4df80ac50d", func := "selvedge/selvedgelaw02.BitsetOthers", spec := "bitsetOthers", unfollowed := true, recurses := true, apart := false }
def BitsetOthersSaid : Prop := bitsetOthersRow.holds Try.pinned (OpenSpec.ofChange bitsetOthersSpec)

/-- ITS FALSE NEIGHBOUR: 'it returns false'. Refute it at one input. -/
def bitsetOthersWrong : ChangeSpec := { name := "bitsetOthers", fn := fun _ => fun
  | [d1, d2, d3] => { results := [.lit (.bool false)], args := [d1, d2, d3] }
  | _ => none }
def BitsetOthersWrongFalsely : Prop := bitsetOthersRow.holds Try.pinned (OpenSpec.ofChange bitsetOthersWrong)

/-- 'selvedgelaw02.BitsetRows': WHATEVER THE INPUT: true; the input reads as it did. -/
def bitsetRowsSpec : ChangeSpec := { name := "bitsetRows", fn := fun _ => fun
  | [d] => { results := [.lit (.bool true)], args := [d] }
  | _ => none }
def bitsetRowsRow : OpenClaim := { program := "yteodjknknpdmeaa", sum := "e6cdcc904a89746fc6d6a53ab049e60edce533c649f85b1da12d3e4df80ac50d", func := "selvedge/selvedgelaw02.BitsetRows", spec := "bitsetRows", unfollowed := true, recurses := true, apart := false }
def BitsetRowsSaid : Prop := bitsetRowsRow.holds Try.pinned (OpenSpec.ofChange bitsetRowsSpec)

/-- ITS FALSE NEIGHBOUR: 'it returns false'. Refute it at one input. -/
def bitsetRowsWrong : ChangeSpec := { name := "bitsetRows", fn := fun _ => fun
  | [d] => { results := [.lit (.bool false)], args := [d] }
  | _ => none }
def BitsetRowsWrongFalsely : Prop := bitsetRowsRow.holds Try.pinned (OpenSpec.ofChange bitsetRowsWrong)

/-- 'selvedgelaw02.BitsetFirsts': WHATEVER THE INPUT: true; the input reads as it did. -/
def bitsetFirstsSpec : ChangeSpec := { name := "bitsetFirsts", fn := fun _ => fun
  | [d1, d2, d3] => { results := [.lit (.bool true)], args := [d1, d2, d3] }
  | _ => none }
def bitsetFirstsRow : OpenClaim := { program := "yteodjknknpdmeaa", sum := "e6cdcc904a89746fc6d6a53ab049e60edce533c649f85b1da12d3e4df80ac50d", func := "selvedge/selvedgelaw02.BitsetFirsts", spec := "bitsetFirsts", unfollowed := true, recurses := true, apart := false }
def BitsetFirstsSaid : Prop := bitsetFirstsRow.holds Try.pinned (OpenSpec.ofChange bitsetFirstsSpec)

/-- ITS FALSE NEIGHBOUR: 'it returns false'. Refute it at one input. -/
def bitsetFirstsWrong : ChangeSpec := { name := "bitsetFirsts", fn := fun _ => fun
  | [d1, d2, d3] => { results := [.lit (.bool false)], args := [d1, d2, d3] }
  | _ => none }
def BitsetFirstsWrongFalsely : Prop := bitsetFirstsRow.holds Try.pinned (OpenSpec.ofChange bitsetFirstsWrong)

/-- 'selvedgelaw02.BitsetFills': WHATEVER THE INPUT: true; the input reads as it did. -/
def bitsetFillsSpec : ChangeSpec := { name := "bitsetFills", fn := fun _ => fun
  | [d1, d2, d3] => { results := [.lit (.bool true)], args := [d1, d2, d3] }
  | _ => none }
def bitsetFillsRow : OpenClaim := { program := "yteodjknknpdmeaa", sum := "e6cdcc904a89746fc6d6a53ab049e60edce533c649f85b1da12d3e4df80ac50d", func := "selvedge/selvedgelaw02.BitsetFills", spec := "bitsetFills", unfollowed := true, recurses := true, apart := false }
def BitsetFillsSaid : Prop := bitsetFillsRow.holds Try.pinned (OpenSpec.ofChange bitsetFillsSpec)

/-- ITS FALSE NEIGHBOUR: 'it returns false'. Refute it at one input. -/
def bitsetFillsWrong : ChangeSpec := { name := "bitsetFills", fn := fun _ => fun
  | [d1, d2, d3] => { results := [.lit (.bool false)], args := [d1, d2, d3] }
  | _ => none }
def BitsetFillsWrongFalsely : Prop := bitsetFillsRow.holds Try.pinned (OpenSpec.ofChange bitsetFillsWrong)

/-- 'selvedgelaw02.BitsetLists': WHATEVER THE INPUT: true; the input reads as it did. -/
def bitsetListsSpec : ChangeSpec := { name := "bitsetLists", fn := fun _ => fun
  | [d] => { results := [.lit (.bool true)], args := [d] }
  | _ => none }
def bitsetListsRow : OpenClaim := { program := "yteodjknknpdmeaa", sum := "e6cdcc904a89746fc6d6a53ab049e60edce533c649f85b1da12d3e4df80ac50d", func := "selvedge/selvedgelaw02.BitsetLists", spec := "bitsetLists", unfollowed := true, recurses := true, apart := false }
def BitsetListsSaid : Prop := bitsetListsRow.holds Try.pinned (OpenSpec.ofChange bitsetListsSpec)

/-- ITS FALSE NEIGHBOUR: 'it returns false'. Refute it at one input. -/
def bitsetListsWrong : ChangeSpec := { name := "bitsetLists", fn := fun _ => fun
  | [d] => { results := [.lit (.bool false)], args := [d] }
  | _ => none }
def BitsetListsWrongFalsely : Prop := bitsetListsRow.holds Try.pinned (OpenSpec.ofChange bitsetListsWrong)

/-- 'selvedgelaw02.BitsetMakes': WHATEVER THE INPUT: true; the input reads as it did. -/
def bitsetMakesSpec : ChangeSpec := { name := "bitsetMakes", fn := fun _ => fun
  | [d1, d2, d3] => { results := [.lit (.bool true)], args := [d1, d2, d3] }
  | _ => none }
def bitsetMakesRow : OpenClaim := { program := "yteodjknknpdmeaa", sum := "e6cdcc904a89746fc6d6a53ab049e60edce533c649f85b1da12d3e4df80ac50d", func := "selvedge/selvedgelaw02.BitsetMakes", spec := "bitsetMakes", unfollowed := true, recurses := true, apart := false }
def BitsetMakesSaid : Prop := bitsetMakesRow.holds Try.pinned (OpenSpec.ofChange bitsetMakesSpec)

/-- ITS FALSE NEIGHBOUR: 'it returns false'. Refute it at one input. -/
def bitsetMakesWrong : ChangeSpec := { name := "bitsetMakes", fn := fun _ => fun
  | [d1, d2, d3] => { results := [.lit (.bool false)], args := [d1, d2, d3] }
  | _ => none }
def BitsetMakesWrongFalsely : Prop := bitsetMakesRow.holds Try.pinned (OpenSpec.ofChange bitsetMakesWrong)

/-- 'selvedgelaw02.BitsetBack': WHATEVER THE INPUT: true; the input reads as it did. -/
def bitsetBackSpec : ChangeSpec := { name := "bitsetBack", fn := fun _ => fun
  | [d] => { results := [.lit (.bool true)], args := [d] }
  | _ => none }
def bitsetBackRow : OpenClaim := { program := "yteodjknknpdmeaa", sum := "e6cdcc904a89746fc6d6a53ab049e60edce533c649f85b1da12d3e4df80ac50d", func := "selvedge/selvedgelaw02.BitsetBack", spec := "bitsetBack", unfollowed := true, recurses := true, apart := false }
def BitsetBackSaid : Prop := bitsetBackRow.holds Try.pinned (OpenSpec.ofChange bitsetBackSpec)

/-- ITS FALSE NEIGHBOUR: 'it returns false'. Refute it at one input. -/
def bitsetBackWrong : ChangeSpec := { name := "bitsetBack", fn := fun _ => fun
  | [d] => { results := [.lit (.bool false)], args := [d] }
  | _ => none }
def BitsetBackWrongFalsely : Prop := bitsetBackRow.holds Try.pinned (OpenSpec.ofChange bitsetBackWrong)

/- THE SECOND FORM. 'bulk': how many values and letters a reading holds, each counted each time it is reached (what is shared counts as often as it is met; a slice's spare places count too). A statement '..UptoSaid' is the law's where the arguments, and the package variables that the reading takes, are together of bulk at most 1048576: NARROWER than '..Said'. Prove '..Said' where nothing that the law and all that it calls make is longer than what came in: it says more and counts as full. Else prove '..UptoSaid'. A law counts once. -/
mutual
def uptoBulk {H : Type} : DataW H → Nat
  | .lit (.string bytes) => bytes.length + 1
  | .lit _ => 1
  | .nil => 1
  | .ptr d => uptoBulk d + 1
  | .slice elems spare => uptoBulkAll elems + uptoBulkAll spare + 1
  | .agg parts => uptoBulkAll parts + 1
  | .iface _ d => uptoBulk d + 1
  | .map entries => uptoBulkEntries entries + 1
  | .held _ => 1
def uptoBulkAll {H : Type} : List (DataW H) → Nat
  | [] => 0
  | d :: r => uptoBulk d + uptoBulkAll r
def uptoBulkEntries {H : Type} : List (Lit × DataW H) → Nat
  | [] => 0
  | x :: r => uptoBulkEntry x + uptoBulkEntries r
def uptoBulkEntry {H : Type} : Lit × DataW H → Nat
  | (.string bytes, d) => bytes.length + uptoBulk d + 1
  | (_, d) => uptoBulk d + 1
 end
def uptoSmall : (H : Type) → List (DataW H) → Bool := fun _ ds => decide (uptoBulkAll ds ≤ 1048576)
def OpenSpec.upto (s : _root_.Go.ChangeSpec) : _root_.Go.OpenSpec := { _root_.Go.OpenSpec.ofChange s with cond := some uptoSmall }

/-- 'selvedgelaw02.BitsetSets', WHERE WHAT IT READS IS OF BULK AT MOST 1048576: true; the input reads as it did. -/
def bitsetSetsUptoRow : OpenClaim := { program := "yteodjknknpdmeaa", sum := "e6cdcc904a89746fc6d6a53ab049e60edce533c649f85b1da12d3e4df80ac50d", func := "selvedge/selvedgelaw02.BitsetSets", spec := "bitsetSets", unfollowed := true, recurses := true, apart := false, narrowed := true }
def BitsetSetsUptoSaid : Prop := bitsetSetsUptoRow.holds Try.pinned (OpenSpec.upto bitsetSetsSpec)

/-- 'selvedgelaw02.BitsetOthers', WHERE WHAT IT READS IS OF BULK AT MOST 1048576: true; the input reads as it did. -/
def bitsetOthersUptoRow : OpenClaim := { program := "yteodjknknpdmeaa", sum := "e6cdcc904a89746fc6d6a53ab049e60edce533c649f85b1da12d3e4df80ac50d", func := "selvedge/selvedgelaw02.BitsetOthers", spec := "bitsetOthers", unfollowed := true, recurses := true, apart := false, narrowed := true }
def BitsetOthersUptoSaid : Prop := bitsetOthersUptoRow.holds Try.pinned (OpenSpec.upto bitsetOthersSpec)

/-- 'selvedgelaw02.BitsetRows', WHERE WHAT IT READS IS OF BULK AT MOST 1048576: true; the input reads as it did. -/
def bitsetRowsUptoRow : OpenClaim := { program := "yteodjknknpdmeaa", sum := "e6cdcc904a89746fc6d6a53ab049e60edce533c649f85b1da12d3e4df80ac50d", func := "selvedge/selvedgelaw02.BitsetRows", spec := "bitsetRows", unfollowed := true, recurses := true, apart := false, narrowed := true }
def BitsetRowsUptoSaid : Prop := bitsetRowsUptoRow.holds Try.pinned (OpenSpec.upto bitsetRowsSpec)

/-- 'selvedgelaw02.BitsetFirsts', WHERE WHAT IT READS IS OF BULK AT MOST 1048576: true; the input reads as it did. -/
def bitsetFirstsUptoRow : OpenClaim := { program := "yteodjknknpdmeaa", sum := "e6cdcc904a89746fc6d6a53ab049e60edce533c649f85b1da12d3e4df80ac50d", func := "selvedge/selvedgelaw02.BitsetFirsts", spec := "bitsetFirsts", unfollowed := true, recurses := true, apart := false, narrowed := true }
def BitsetFirstsUptoSaid : Prop := bitsetFirstsUptoRow.holds Try.pinned (OpenSpec.upto bitsetFirstsSpec)

/-- 'selvedgelaw02.BitsetFills', WHERE WHAT IT READS IS OF BULK AT MOST 1048576: true; the input reads as it did. -/
def bitsetFillsUptoRow : OpenClaim := { program := "yteodjknknpdmeaa", sum := "e6cdcc904a89746fc6d6a53ab049e60edce533c649f85b1da12d3e4df80ac50d", func := "selvedge/selvedgelaw02.BitsetFills", spec := "bitsetFills", unfollowed := true, recurses := true, apart := false, narrowed := true }
def BitsetFillsUptoSaid : Prop := bitsetFillsUptoRow.holds Try.pinned (OpenSpec.upto bitsetFillsSpec)

/-- 'selvedgelaw02.BitsetLists', WHERE WHAT IT READS IS OF BULK AT MOST 1048576: true; the input reads as it did. -/
def bitsetListsUptoRow : OpenClaim := { program := "yteodjknknpdmeaa", sum := "e6cdcc904a89746fc6d6a53ab049e60edce533c649f85b1da12d3e4df80ac50d", func := "selvedge/selvedgelaw02.BitsetLists", spec := "bitsetLists", unfollowed := true, recurses := true, apart := false, narrowed := true }
def BitsetListsUptoSaid : Prop := bitsetListsUptoRow.holds Try.pinned (OpenSpec.upto bitsetListsSpec)

/-- 'selvedgelaw02.BitsetMakes', WHERE WHAT IT READS IS OF BULK AT MOST 1048576: true; the input reads as it did. -/
def bitsetMakesUptoRow : OpenClaim := { program := "yteodjknknpdmeaa", sum := "e6cdcc904a89746fc6d6a53ab049e60edce533c649f85b1da12d3e4df80ac50d", func := "selvedge/selvedgelaw02.BitsetMakes", spec := "bitsetMakes", unfollowed := true, recurses := true, apart := false, narrowed := true }
def BitsetMakesUptoSaid : Prop := bitsetMakesUptoRow.holds Try.pinned (OpenSpec.upto bitsetMakesSpec)

/-- 'selvedgelaw02.BitsetBack', WHERE WHAT IT READS IS OF BULK AT MOST 1048576: true; the input reads as it did. -/
def bitsetBackUptoRow : OpenClaim := { program := "yteodjknknpdmeaa", sum := "e6cdcc904a89746fc6d6a53ab049e60edce533c649f85b1da12d3e4df80ac50d", func := "selvedge/selvedgelaw02.BitsetBack", spec := "bitsetBack", unfollowed := true, recurses := true, apart := false, narrowed := true }
def BitsetBackUptoSaid : Prop := bitsetBackUptoRow.holds Try.pinned (OpenSpec.upto bitsetBackSpec)

end Rows
end Go.Proofs.Yteodjknknpdmeaa
