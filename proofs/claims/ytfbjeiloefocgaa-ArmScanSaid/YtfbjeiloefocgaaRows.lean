/-
  No cell of these rows narrows 'for every input' (looked for: loops, veiled, ifaces, maps, wideKeys, modest, calm, conditions, laid).
  DERIVED. THE GIVEN ROWS OF THIS SEAT. 8 by the template 'for every input the law returns true; each argument reads behind the call as it read before'; 0 by the template 'total and deterministic' (their statements: YtfbjeiloefocgaaTotals.lean).
  GIVEN WITH THE SEED: the statements are not yours to turn. If you find one false, say at which input.
  Laid BY PROGRAM, IN A SANDBOX (cutbox-rows.mjs): the forced cells as the released guide's own fill.sh prints them over the translation cfbcd432ec049ec3… (all of the seat's roots in one cut). By AI agents, Wed Nov 11 2026. No macro, syntax, notation, axiom, sorry.
-/
import Derived.Test.YtfbjeiloefocgaaChecked
import GoSem.Claim
import GoSem.ClaimJoined
import GoSem.ClaimMapViews
import Derived.JoinedTies
import Derived.KernelRfl
namespace Go.Proofs.Ytfbjeiloefocgaa
/- THE CELL 'sum', in the pinned program and in every row, IS THE sha256 OF THE DUMP (.gsa) THAT YtfbjeiloefocgaaProg.lean LOADS. Nothing in Lean hashes anything: it is a label: what it is worth is what the hold of that sum in a sandbox is worth. -/
noncomputable def Try.pinned : Pinned := { name := "ytfbjeiloefocgaa", sum := "cfbcd432ec049ec39f210454fa9a94f43d9f7efad4e1eb0fda87552adc516e8c", checked := Try.checked }
namespace Rows
def none {H : Type} : Left H := { results := [], args := [] }

/-- 'selvedgelaw21.ArmAlls': WHATEVER THE INPUT: true; the input reads as it did. -/
def armAllsSpec : ChangeSpec := { name := "armAlls", fn := fun _ => fun
  | [d] => { results := [.lit (.bool true)], args := [d] }
  | _ => none }
def armAllsRow : OpenClaim := { program := "ytfbjeiloefocgaa", sum := "cfbcd432ec049ec39f210454fa9a94f43d9f7efad4e1eb0fda87552adc516e8c", func := "selvedge/selvedgelaw21.ArmAlls", spec := "armAlls", inPlace := ["math.Float64bits", "math.Float64frombits", "math.archTrunc"], unfollowed := true, recurses := true, apart := false }
def ArmAllsSaid : Prop := armAllsRow.holds Try.pinned (OpenSpec.ofChange armAllsSpec)

/-- ITS FALSE NEIGHBOUR: 'it returns false'. Refute it at one input. -/
def armAllsWrong : ChangeSpec := { name := "armAlls", fn := fun _ => fun
  | [d] => { results := [.lit (.bool false)], args := [d] }
  | _ => none }
def ArmAllsWrongFalsely : Prop := armAllsRow.holds Try.pinned (OpenSpec.ofChange armAllsWrong)

/-- 'selvedgelaw21.ArmFirst': WHATEVER THE INPUT: true; the input reads as it did. -/
def armFirstSpec : ChangeSpec := { name := "armFirst", fn := fun _ => fun
  | [d1, d2, d3] => { results := [.lit (.bool true)], args := [d1, d2, d3] }
  | _ => none }
def armFirstRow : OpenClaim := { program := "ytfbjeiloefocgaa", sum := "cfbcd432ec049ec39f210454fa9a94f43d9f7efad4e1eb0fda87552adc516e8c", func := "selvedge/selvedgelaw21.ArmFirst", spec := "armFirst", inPlace := ["math.Float64bits", "math.Float64frombits", "math.archTrunc"], unfollowed := true, recurses := true, apart := false }
def ArmFirstSaid : Prop := armFirstRow.holds Try.pinned (OpenSpec.ofChange armFirstSpec)

/-- ITS FALSE NEIGHBOUR: 'it returns false'. Refute it at one input. -/
def armFirstWrong : ChangeSpec := { name := "armFirst", fn := fun _ => fun
  | [d1, d2, d3] => { results := [.lit (.bool false)], args := [d1, d2, d3] }
  | _ => none }
def ArmFirstWrongFalsely : Prop := armFirstRow.holds Try.pinned (OpenSpec.ofChange armFirstWrong)

/-- 'selvedgelaw21.ArmScan': WHATEVER THE INPUT: true; the input reads as it did. -/
def armScanSpec : ChangeSpec := { name := "armScan", fn := fun _ => fun
  | [d1, d2, d3] => { results := [.lit (.bool true)], args := [d1, d2, d3] }
  | _ => none }
def armScanRow : OpenClaim := { program := "ytfbjeiloefocgaa", sum := "cfbcd432ec049ec39f210454fa9a94f43d9f7efad4e1eb0fda87552adc516e8c", func := "selvedge/selvedgelaw21.ArmScan", spec := "armScan", inPlace := ["math.Float64bits", "math.Float64frombits", "math.archTrunc"], unfollowed := true, recurses := true, apart := false }
def ArmScanSaid : Prop := armScanRow.holds Try.pinned (OpenSpec.ofChange armScanSpec)

/-- ITS FALSE NEIGHBOUR: 'it returns false'. Refute it at one input. -/
def armScanWrong : ChangeSpec := { name := "armScan", fn := fun _ => fun
  | [d1, d2, d3] => { results := [.lit (.bool false)], args := [d1, d2, d3] }
  | _ => none }
def ArmScanWrongFalsely : Prop := armScanRow.holds Try.pinned (OpenSpec.ofChange armScanWrong)

/-- 'selvedgelaw21.ArmOnce': WHATEVER THE INPUT: true; the input reads as it did. -/
def armOnceSpec : ChangeSpec := { name := "armOnce", fn := fun _ => fun
  | [d1, d2, d3] => { results := [.lit (.bool true)], args := [d1, d2, d3] }
  | _ => none }
def armOnceRow : OpenClaim := { program := "ytfbjeiloefocgaa", sum := "cfbcd432ec049ec39f210454fa9a94f43d9f7efad4e1eb0fda87552adc516e8c", func := "selvedge/selvedgelaw21.ArmOnce", spec := "armOnce", inPlace := ["math.Float64bits", "math.Float64frombits", "math.archTrunc"], unfollowed := true, recurses := true, apart := false }
def ArmOnceSaid : Prop := armOnceRow.holds Try.pinned (OpenSpec.ofChange armOnceSpec)

/-- ITS FALSE NEIGHBOUR: 'it returns false'. Refute it at one input. -/
def armOnceWrong : ChangeSpec := { name := "armOnce", fn := fun _ => fun
  | [d1, d2, d3] => { results := [.lit (.bool false)], args := [d1, d2, d3] }
  | _ => none }
def ArmOnceWrongFalsely : Prop := armOnceRow.holds Try.pinned (OpenSpec.ofChange armOnceWrong)

/-- 'selvedgelaw21.ArmFair': WHATEVER THE INPUT: true; the input reads as it did. -/
def armFairSpec : ChangeSpec := { name := "armFair", fn := fun _ => fun
  | [d1, d2, d3] => { results := [.lit (.bool true)], args := [d1, d2, d3] }
  | _ => none }
def armFairRow : OpenClaim := { program := "ytfbjeiloefocgaa", sum := "cfbcd432ec049ec39f210454fa9a94f43d9f7efad4e1eb0fda87552adc516e8c", func := "selvedge/selvedgelaw21.ArmFair", spec := "armFair", inPlace := ["math.Float64bits", "math.Float64frombits", "math.archTrunc"], unfollowed := true, recurses := true, apart := false }
def ArmFairSaid : Prop := armFairRow.holds Try.pinned (OpenSpec.ofChange armFairSpec)

/-- ITS FALSE NEIGHBOUR: 'it returns false'. Refute it at one input. -/
def armFairWrong : ChangeSpec := { name := "armFair", fn := fun _ => fun
  | [d1, d2, d3] => { results := [.lit (.bool false)], args := [d1, d2, d3] }
  | _ => none }
def ArmFairWrongFalsely : Prop := armFairRow.holds Try.pinned (OpenSpec.ofChange armFairWrong)

/-- 'selvedgelaw21.ArmPlays': WHATEVER THE INPUT: true; the input reads as it did. -/
def armPlaysSpec : ChangeSpec := { name := "armPlays", fn := fun _ => fun
  | [d1, d2, d3] => { results := [.lit (.bool true)], args := [d1, d2, d3] }
  | _ => none }
def armPlaysRow : OpenClaim := { program := "ytfbjeiloefocgaa", sum := "cfbcd432ec049ec39f210454fa9a94f43d9f7efad4e1eb0fda87552adc516e8c", func := "selvedge/selvedgelaw21.ArmPlays", spec := "armPlays", inPlace := ["math.Float64bits", "math.Float64frombits", "math.archTrunc"], unfollowed := true, recurses := true, apart := false }
def ArmPlaysSaid : Prop := armPlaysRow.holds Try.pinned (OpenSpec.ofChange armPlaysSpec)

/-- ITS FALSE NEIGHBOUR: 'it returns false'. Refute it at one input. -/
def armPlaysWrong : ChangeSpec := { name := "armPlays", fn := fun _ => fun
  | [d1, d2, d3] => { results := [.lit (.bool false)], args := [d1, d2, d3] }
  | _ => none }
def ArmPlaysWrongFalsely : Prop := armPlaysRow.holds Try.pinned (OpenSpec.ofChange armPlaysWrong)

/-- 'selvedgelaw21.ArmForks': WHATEVER THE INPUT: true; the input reads as it did. -/
def armForksSpec : ChangeSpec := { name := "armForks", fn := fun _ => fun
  | [d1, d2, d3] => { results := [.lit (.bool true)], args := [d1, d2, d3] }
  | _ => none }
def armForksRow : OpenClaim := { program := "ytfbjeiloefocgaa", sum := "cfbcd432ec049ec39f210454fa9a94f43d9f7efad4e1eb0fda87552adc516e8c", func := "selvedge/selvedgelaw21.ArmForks", spec := "armForks", inPlace := ["math.Float64bits", "math.Float64frombits", "math.archTrunc"], unfollowed := true, recurses := true, apart := false }
def ArmForksSaid : Prop := armForksRow.holds Try.pinned (OpenSpec.ofChange armForksSpec)

/-- ITS FALSE NEIGHBOUR: 'it returns false'. Refute it at one input. -/
def armForksWrong : ChangeSpec := { name := "armForks", fn := fun _ => fun
  | [d1, d2, d3] => { results := [.lit (.bool false)], args := [d1, d2, d3] }
  | _ => none }
def ArmForksWrongFalsely : Prop := armForksRow.holds Try.pinned (OpenSpec.ofChange armForksWrong)

/-- 'selvedgelaw21.ArmNone': WHATEVER THE INPUT: true; the input reads as it did. -/
def armNoneSpec : ChangeSpec := { name := "armNone", fn := fun _ => fun
  | [d1, d2] => { results := [.lit (.bool true)], args := [d1, d2] }
  | _ => none }
def armNoneRow : OpenClaim := { program := "ytfbjeiloefocgaa", sum := "cfbcd432ec049ec39f210454fa9a94f43d9f7efad4e1eb0fda87552adc516e8c", func := "selvedge/selvedgelaw21.ArmNone", spec := "armNone", inPlace := ["math.Float64bits", "math.Float64frombits", "math.archTrunc"], unfollowed := true, recurses := true, apart := false }
def ArmNoneSaid : Prop := armNoneRow.holds Try.pinned (OpenSpec.ofChange armNoneSpec)

/-- ITS FALSE NEIGHBOUR: 'it returns false'. Refute it at one input. -/
def armNoneWrong : ChangeSpec := { name := "armNone", fn := fun _ => fun
  | [d1, d2] => { results := [.lit (.bool false)], args := [d1, d2] }
  | _ => none }
def ArmNoneWrongFalsely : Prop := armNoneRow.holds Try.pinned (OpenSpec.ofChange armNoneWrong)

/- THE SECOND FORM. 'bulk': how many values and letters a reading holds, each counted each time it is reached (what is shared counts as often as it is met; a slice's spare places count too). A statement '..UptoSaid' is the law's where the arguments, and the package variables that the reading takes, are together of bulk at most 1048576: NARROWER than '..Said'. Prove '..Said' where nothing that the law and all that it calls make is longer than what came in: it says more and counts as full. Else prove '..UptoSaid'. A law counts once. -/
mutual
def uptoBulk {H : Type} : DataW H → Nat
  | .lit (.string bytes) => bytes.length + 1
  | .lit _ => 1
  | .nil => 1
  | .ptr d => uptoBulk d + 1
  | .slice elems spare => uptoBulkAll elems + uptoBulkAll spare + 1
  | .agg parts => uptoBulkAll parts + 1
  | .iface _ d => uptoBulk d + 1
  | .map entries => uptoBulkEntries entries + 1
  | .held _ => 1
def uptoBulkAll {H : Type} : List (DataW H) → Nat
  | [] => 0
  | d :: r => uptoBulk d + uptoBulkAll r
def uptoBulkEntries {H : Type} : List (Lit × DataW H) → Nat
  | [] => 0
  | x :: r => uptoBulkEntry x + uptoBulkEntries r
def uptoBulkEntry {H : Type} : Lit × DataW H → Nat
  | (.string bytes, d) => bytes.length + uptoBulk d + 1
  | (_, d) => uptoBulk d + 1
 end
def uptoSmall : (H : Type) → List (DataW H) → Bool := fun _ ds => decide (uptoBulkAll ds ≤ 1048576)
def OpenSpec.upto (s : _root_.Go.ChangeSpec) : _root_.Go.OpenSpec := { _root_.Go.OpenSpec.ofChange s with cond := some uptoSmall }

/-- 'selvedgelaw21.ArmAlls', WHERE WHAT IT READS IS OF BULK AT MOST 1048576: true; the input reads as it did. -/
def armAllsUptoRow : OpenClaim := { program := "ytfbjeiloefocgaa", sum := "cfbcd432ec049ec39f210454fa9a94f43d9f7efad4e1eb0fda87552adc516e8c", func := "selvedge/selvedgelaw21.ArmAlls", spec := "armAlls", inPlace := ["math.Float64bits", "math.Float64frombits", "math.archTrunc"], unfollowed := true, recurses := true, apart := false, narrowed := true }
def ArmAllsUptoSaid : Prop := armAllsUptoRow.holds Try.pinned (OpenSpec.upto armAllsSpec)

/-- 'selvedgelaw21.ArmFirst', WHERE WHAT IT READS IS OF BULK AT MOST 1048576: true; the input reads as it did. -/
def armFirstUptoRow : OpenClaim := { program := "ytfbjeiloefocgaa", sum := "cfbcd432ec049ec39f210454fa9a94f43d9f7efad4e1eb0fda87552adc516e8c", func := "selvedge/selvedgelaw21.ArmFirst", spec := "armFirst", inPlace := ["math.Float64bits", "math.Float64frombits", "math.archTrunc"], unfollowed := true, recurses := true, apart := false, narrowed := true }
def ArmFirstUptoSaid : Prop := armFirstUptoRow.holds Try.pinned (OpenSpec.upto armFirstSpec)

/-- 'selvedgelaw21.ArmScan', WHERE WHAT IT READS IS OF BULK AT MOST 1048576: true; the input reads as it did. -/
def armScanUptoRow : OpenClaim := { program := "ytfbjeiloefocgaa", sum := "cfbcd432ec049ec39f210454fa9a94f43d9f7efad4e1eb0fda87552adc516e8c", func := "selvedge/selvedgelaw21.ArmScan", spec := "armScan", inPlace := ["math.Float64bits", "math.Float64frombits", "math.archTrunc"], unfollowed := true, recurses := true, apart := false, narrowed := true }
def ArmScanUptoSaid : Prop := armScanUptoRow.holds Try.pinned (OpenSpec.upto armScanSpec)

/-- 'selvedgelaw21.ArmOnce', WHERE WHAT IT READS IS OF BULK AT MOST 1048576: true; the input reads as it did. -/
def armOnceUptoRow : OpenClaim := { program := "ytfbjeiloefocgaa", sum := "cfbcd432ec049ec39f210454fa9a94f43d9f7efad4e1eb0fda87552adc516e8c", func := "selvedge/selvedgelaw21.ArmOnce", spec := "armOnce", inPlace := ["math.Float64bits", "math.Float64frombits", "math.archTrunc"], unfollowed := true, recurses := true, apart := false, narrowed := true }
def ArmOnceUptoSaid : Prop := armOnceUptoRow.holds Try.pinned (OpenSpec.upto armOnceSpec)

/-- 'selvedgelaw21.ArmFair', WHERE WHAT IT READS IS OF BULK AT MOST 1048576: true; the input reads as it did. -/
def armFairUptoRow : OpenClaim := { program := "ytfbjeiloefocgaa", sum := "cfbcd432ec049ec39f210454fa9a94f43d9f7efad4e1eb0fda87552adc516e8c", func := "selvedge/selvedgelaw21.ArmFair", spec := "armFair", inPlace := ["math.Float64bits", "math.Float64frombits", "math.archTrunc"], unfollowed := true, recurses := true, apart := false, narrowed := true }
def ArmFairUptoSaid : Prop := armFairUptoRow.holds Try.pinned (OpenSpec.upto armFairSpec)

/-- 'selvedgelaw21.ArmPlays', WHERE WHAT IT READS IS OF BULK AT MOST 1048576: true; the input reads as it did. -/
def armPlaysUptoRow : OpenClaim := { program := "ytfbjeiloefocgaa", sum := "cfbcd432ec049ec39f210454fa9a94f43d9f7efad4e1eb0fda87552adc516e8c", func := "selvedge/selvedgelaw21.ArmPlays", spec := "armPlays", inPlace := ["math.Float64bits", "math.Float64frombits", "math.archTrunc"], unfollowed := true, recurses := true, apart := false, narrowed := true }
def ArmPlaysUptoSaid : Prop := armPlaysUptoRow.holds Try.pinned (OpenSpec.upto armPlaysSpec)

/-- 'selvedgelaw21.ArmForks', WHERE WHAT IT READS IS OF BULK AT MOST 1048576: true; the input reads as it did. -/
def armForksUptoRow : OpenClaim := { program := "ytfbjeiloefocgaa", sum := "cfbcd432ec049ec39f210454fa9a94f43d9f7efad4e1eb0fda87552adc516e8c", func := "selvedge/selvedgelaw21.ArmForks", spec := "armForks", inPlace := ["math.Float64bits", "math.Float64frombits", "math.archTrunc"], unfollowed := true, recurses := true, apart := false, narrowed := true }
def ArmForksUptoSaid : Prop := armForksUptoRow.holds Try.pinned (OpenSpec.upto armForksSpec)

/-- 'selvedgelaw21.ArmNone', WHERE WHAT IT READS IS OF BULK AT MOST 1048576: true; the input reads as it did. -/
def armNoneUptoRow : OpenClaim := { program := "ytfbjeiloefocgaa", sum := "cfbcd432ec049ec39f210454fa9a94f43d9f7efad4e1eb0fda87552adc516e8c", func := "selvedge/selvedgelaw21.ArmNone", spec := "armNone", inPlace := ["math.Float64bits", "math.Float64frombits", "math.archTrunc"], unfollowed := true, recurses := true, apart := false, narrowed := true }
def ArmNoneUptoSaid : Prop := armNoneUptoRow.holds Try.pinned (OpenSpec.upto armNoneSpec)

end Rows
end Go.Proofs.Ytfbjeiloefocgaa
