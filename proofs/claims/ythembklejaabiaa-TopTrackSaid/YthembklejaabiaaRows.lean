/-
  No cell of these rows narrows 'for every input' (looked for: loops, veiled, ifaces, maps, wideKeys, modest, calm, conditions, laid).
  DERIVED. THE GIVEN ROWS OF THIS SEAT. 7 by the template 'for every input the law returns true; each argument reads behind the call as it read before'; 0 by the template 'total and deterministic' (their statements: YthembklejaabiaaTotals.lean).
  GIVEN WITH THE SEED: the statements are not yours to turn. If you find one false, say at which input.
  Laid BY PROGRAM, IN A SANDBOX (cutbox-rows.mjs): the forced cells as the released guide's own fill.sh prints them over the translation c33583c780446d64… (all of the seat's roots in one cut). By AI agents, Wed Nov 11 2026. No macro, syntax, notation, axiom, sorry.
-/
import Derived.Test.YthembklejaabiaaChecked
import GoSem.Claim
import GoSem.ClaimJoined
import GoSem.ClaimMapViews
import Derived.JoinedTies
import Derived.KernelRfl
namespace Go.Proofs.Ythembklejaabiaa
/- THE CELL 'sum', in the pinned program and in every row, IS THE sha256 OF THE DUMP (.gsa) THAT YthembklejaabiaaProg.lean LOADS. Nothing in Lean hashes anything: it is a label: what it is worth is what the hold of that sum in a sandbox is worth. -/
noncomputable def Try.pinned : Pinned := { name := "ythembklejaabiaa", sum := "c33583c780446d640ffd69d2d3f7e47f160a1f8f21bde85fcb3d7d6da13dc902", checked := Try.checked }
namespace Rows
def none {H : Type} : Left H := { results := [], args := [] }

/-- 'selvedgelaw01.PlaceShort': WHATEVER THE INPUT: true; the input reads as it did. -/
def placeShortSpec : ChangeSpec := { name := "placeShort", fn := fun _ => fun
  | [d1, d2] => { results := [.lit (.bool true)], args := [d1, d2] }
  | _ => none }
def placeShortRow : OpenClaim := { program := "ythembklejaabiaa", sum := "c33583c780446d640ffd69d2d3f7e47f160a1f8f21bde85fcb3d7d6da13dc902", func := "selvedge/selvedgelaw01.PlaceShort", spec := "placeShort", inPlace := ["math.Float64bits", "math.Float64frombits", "math.archTrunc"], unfollowed := true, recurses := true, apart := false }
def PlaceShortSaid : Prop := placeShortRow.holds Try.pinned (OpenSpec.ofChange placeShortSpec)

/-- ITS FALSE NEIGHBOUR: 'it returns false'. Refute it at one input. -/
def placeShortWrong : ChangeSpec := { name := "placeShort", fn := fun _ => fun
  | [d1, d2] => { results := [.lit (.bool false)], args := [d1, d2] }
  | _ => none }
def PlaceShortWrongFalsely : Prop := placeShortRow.holds Try.pinned (OpenSpec.ofChange placeShortWrong)

/-- 'selvedgelaw01.PlaceBack': WHATEVER THE INPUT: true; the input reads as it did. -/
def placeBackSpec : ChangeSpec := { name := "placeBack", fn := fun _ => fun
  | [d1, d2] => { results := [.lit (.bool true)], args := [d1, d2] }
  | _ => none }
def placeBackRow : OpenClaim := { program := "ythembklejaabiaa", sum := "c33583c780446d640ffd69d2d3f7e47f160a1f8f21bde85fcb3d7d6da13dc902", func := "selvedge/selvedgelaw01.PlaceBack", spec := "placeBack", inPlace := ["math.Float64bits", "math.Float64frombits", "math.archTrunc"], unfollowed := true, recurses := true, apart := false }
def PlaceBackSaid : Prop := placeBackRow.holds Try.pinned (OpenSpec.ofChange placeBackSpec)

/-- ITS FALSE NEIGHBOUR: 'it returns false'. Refute it at one input. -/
def placeBackWrong : ChangeSpec := { name := "placeBack", fn := fun _ => fun
  | [d1, d2] => { results := [.lit (.bool false)], args := [d1, d2] }
  | _ => none }
def PlaceBackWrongFalsely : Prop := placeBackRow.holds Try.pinned (OpenSpec.ofChange placeBackWrong)

/-- 'selvedgetop.TopApart': WHATEVER THE INPUT: true; the input reads as it did. -/
def topApartSpec : ChangeSpec := { name := "topApart", fn := fun _ => fun
  | [d] => { results := [.lit (.bool true)], args := [d] }
  | _ => none }
def topApartRow : OpenClaim := { program := "ythembklejaabiaa", sum := "c33583c780446d640ffd69d2d3f7e47f160a1f8f21bde85fcb3d7d6da13dc902", func := "selvedge/selvedgetop.TopApart", spec := "topApart", inPlace := ["math.Float64bits", "math.Float64frombits", "math.archTrunc"], unfollowed := true, recurses := true, apart := false }
def TopApartSaid : Prop := topApartRow.holds Try.pinned (OpenSpec.ofChange topApartSpec)

/-- ITS FALSE NEIGHBOUR: 'it returns false'. Refute it at one input. -/
def topApartWrong : ChangeSpec := { name := "topApart", fn := fun _ => fun
  | [d] => { results := [.lit (.bool false)], args := [d] }
  | _ => none }
def TopApartWrongFalsely : Prop := topApartRow.holds Try.pinned (OpenSpec.ofChange topApartWrong)

/-- 'selvedgelaw01.PlaceRoutes': WHATEVER THE INPUT: true; the input reads as it did. -/
def placeRoutesSpec : ChangeSpec := { name := "placeRoutes", fn := fun _ => fun
  | [d1, d2, d3] => { results := [.lit (.bool true)], args := [d1, d2, d3] }
  | _ => none }
def placeRoutesRow : OpenClaim := { program := "ythembklejaabiaa", sum := "c33583c780446d640ffd69d2d3f7e47f160a1f8f21bde85fcb3d7d6da13dc902", func := "selvedge/selvedgelaw01.PlaceRoutes", spec := "placeRoutes", inPlace := ["math.Float64bits", "math.Float64frombits", "math.archTrunc"], unfollowed := true, recurses := true, apart := false }
def PlaceRoutesSaid : Prop := placeRoutesRow.holds Try.pinned (OpenSpec.ofChange placeRoutesSpec)

/-- ITS FALSE NEIGHBOUR: 'it returns false'. Refute it at one input. -/
def placeRoutesWrong : ChangeSpec := { name := "placeRoutes", fn := fun _ => fun
  | [d1, d2, d3] => { results := [.lit (.bool false)], args := [d1, d2, d3] }
  | _ => none }
def PlaceRoutesWrongFalsely : Prop := placeRoutesRow.holds Try.pinned (OpenSpec.ofChange placeRoutesWrong)

/-- 'selvedgelaw01.PlaceSweeps': WHATEVER THE INPUT: true; the input reads as it did. -/
def placeSweepsSpec : ChangeSpec := { name := "placeSweeps", fn := fun _ => fun
  | [d1, d2, d3] => { results := [.lit (.bool true)], args := [d1, d2, d3] }
  | _ => none }
def placeSweepsRow : OpenClaim := { program := "ythembklejaabiaa", sum := "c33583c780446d640ffd69d2d3f7e47f160a1f8f21bde85fcb3d7d6da13dc902", func := "selvedge/selvedgelaw01.PlaceSweeps", spec := "placeSweeps", inPlace := ["math.Float64bits", "math.Float64frombits", "math.archTrunc"], unfollowed := true, recurses := true, apart := false }
def PlaceSweepsSaid : Prop := placeSweepsRow.holds Try.pinned (OpenSpec.ofChange placeSweepsSpec)

/-- ITS FALSE NEIGHBOUR: 'it returns false'. Refute it at one input. -/
def placeSweepsWrong : ChangeSpec := { name := "placeSweeps", fn := fun _ => fun
  | [d1, d2, d3] => { results := [.lit (.bool false)], args := [d1, d2, d3] }
  | _ => none }
def PlaceSweepsWrongFalsely : Prop := placeSweepsRow.holds Try.pinned (OpenSpec.ofChange placeSweepsWrong)

/-- 'selvedgelaw01.PlaceSame': WHATEVER THE INPUT: true; the input reads as it did. -/
def placeSameSpec : ChangeSpec := { name := "placeSame", fn := fun _ => fun
  | [d1, d2, d3] => { results := [.lit (.bool true)], args := [d1, d2, d3] }
  | _ => none }
def placeSameRow : OpenClaim := { program := "ythembklejaabiaa", sum := "c33583c780446d640ffd69d2d3f7e47f160a1f8f21bde85fcb3d7d6da13dc902", func := "selvedge/selvedgelaw01.PlaceSame", spec := "placeSame", inPlace := ["math.Float64bits", "math.Float64frombits", "math.archTrunc"], unfollowed := true, recurses := true, apart := false }
def PlaceSameSaid : Prop := placeSameRow.holds Try.pinned (OpenSpec.ofChange placeSameSpec)

/-- ITS FALSE NEIGHBOUR: 'it returns false'. Refute it at one input. -/
def placeSameWrong : ChangeSpec := { name := "placeSame", fn := fun _ => fun
  | [d1, d2, d3] => { results := [.lit (.bool false)], args := [d1, d2, d3] }
  | _ => none }
def PlaceSameWrongFalsely : Prop := placeSameRow.holds Try.pinned (OpenSpec.ofChange placeSameWrong)

/-- 'selvedgetop.TopTrack': WHATEVER THE INPUT: true; the input reads as it did. -/
def topTrackSpec : ChangeSpec := { name := "topTrack", fn := fun _ => fun
  | [d1, d2, d3] => { results := [.lit (.bool true)], args := [d1, d2, d3] }
  | _ => none }
def topTrackRow : OpenClaim := { program := "ythembklejaabiaa", sum := "c33583c780446d640ffd69d2d3f7e47f160a1f8f21bde85fcb3d7d6da13dc902", func := "selvedge/selvedgetop.TopTrack", spec := "topTrack", inPlace := ["math.Float64bits", "math.Float64frombits", "math.archTrunc"], unfollowed := true, recurses := true, apart := false }
def TopTrackSaid : Prop := topTrackRow.holds Try.pinned (OpenSpec.ofChange topTrackSpec)

/-- ITS FALSE NEIGHBOUR: 'it returns false'. Refute it at one input. -/
def topTrackWrong : ChangeSpec := { name := "topTrack", fn := fun _ => fun
  | [d1, d2, d3] => { results := [.lit (.bool false)], args := [d1, d2, d3] }
  | _ => none }
def TopTrackWrongFalsely : Prop := topTrackRow.holds Try.pinned (OpenSpec.ofChange topTrackWrong)

/- THE SECOND FORM. 'bulk': how many values and letters a reading holds, each counted each time it is reached (what is shared counts as often as it is met; a slice's spare places count too). A statement '..UptoSaid' is the law's where the arguments, and the package variables that the reading takes, are together of bulk at most 1048576: NARROWER than '..Said'. Prove '..Said' where nothing that the law and all that it calls make is longer than what came in: it says more and counts as full. Else prove '..UptoSaid'. A law counts once. -/
mutual
def uptoBulk {H : Type} : DataW H → Nat
  | .lit (.string bytes) => bytes.length + 1
  | .lit _ => 1
  | .nil => 1
  | .ptr d => uptoBulk d + 1
  | .slice elems spare => uptoBulkAll elems + uptoBulkAll spare + 1
  | .agg parts => uptoBulkAll parts + 1
  | .iface _ d => uptoBulk d + 1
  | .map entries => uptoBulkEntries entries + 1
  | .held _ => 1
def uptoBulkAll {H : Type} : List (DataW H) → Nat
  | [] => 0
  | d :: r => uptoBulk d + uptoBulkAll r
def uptoBulkEntries {H : Type} : List (Lit × DataW H) → Nat
  | [] => 0
  | x :: r => uptoBulkEntry x + uptoBulkEntries r
def uptoBulkEntry {H : Type} : Lit × DataW H → Nat
  | (.string bytes, d) => bytes.length + uptoBulk d + 1
  | (_, d) => uptoBulk d + 1
 end
def uptoSmall : (H : Type) → List (DataW H) → Bool := fun _ ds => decide (uptoBulkAll ds ≤ 1048576)
def OpenSpec.upto (s : _root_.Go.ChangeSpec) : _root_.Go.OpenSpec := { _root_.Go.OpenSpec.ofChange s with cond := some uptoSmall }

/-- 'selvedgelaw01.PlaceShort', WHERE WHAT IT READS IS OF BULK AT MOST 1048576: true; the input reads as it did. -/
def placeShortUptoRow : OpenClaim := { program := "ythembklejaabiaa", sum := "c33583c780446d640ffd69d2d3f7e47f160a1f8f21bde85fcb3d7d6da13dc902", func := "selvedge/selvedgelaw01.PlaceShort", spec := "placeShort", inPlace := ["math.Float64bits", "math.Float64frombits", "math.archTrunc"], unfollowed := true, recurses := true, apart := false, narrowed := true }
def PlaceShortUptoSaid : Prop := placeShortUptoRow.holds Try.pinned (OpenSpec.upto placeShortSpec)

/-- 'selvedgelaw01.PlaceBack', WHERE WHAT IT READS IS OF BULK AT MOST 1048576: true; the input reads as it did. -/
def placeBackUptoRow : OpenClaim := { program := "ythembklejaabiaa", sum := "c33583c780446d640ffd69d2d3f7e47f160a1f8f21bde85fcb3d7d6da13dc902", func := "selvedge/selvedgelaw01.PlaceBack", spec := "placeBack", inPlace := ["math.Float64bits", "math.Float64frombits", "math.archTrunc"], unfollowed := true, recurses := true, apart := false, narrowed := true }
def PlaceBackUptoSaid : Prop := placeBackUptoRow.holds Try.pinned (OpenSpec.upto placeBackSpec)

/-- 'selvedgetop.TopApart', WHERE WHAT IT READS IS OF BULK AT MOST 1048576: true; the input reads as it did. -/
def topApartUptoRow : OpenClaim := { program := "ythembklejaabiaa", sum := "c33583c780446d640ffd69d2d3f7e47f160a1f8f21bde85fcb3d7d6da13dc902", func := "selvedge/selvedgetop.TopApart", spec := "topApart", inPlace := ["math.Float64bits", "math.Float64frombits", "math.archTrunc"], unfollowed := true, recurses := true, apart := false, narrowed := true }
def TopApartUptoSaid : Prop := topApartUptoRow.holds Try.pinned (OpenSpec.upto topApartSpec)

/-- 'selvedgelaw01.PlaceRoutes', WHERE WHAT IT READS IS OF BULK AT MOST 1048576: true; the input reads as it did. -/
def placeRoutesUptoRow : OpenClaim := { program := "ythembklejaabiaa", sum := "c33583c780446d640ffd69d2d3f7e47f160a1f8f21bde85fcb3d7d6da13dc902", func := "selvedge/selvedgelaw01.PlaceRoutes", spec := "placeRoutes", inPlace := ["math.Float64bits", "math.Float64frombits", "math.archTrunc"], unfollowed := true, recurses := true, apart := false, narrowed := true }
def PlaceRoutesUptoSaid : Prop := placeRoutesUptoRow.holds Try.pinned (OpenSpec.upto placeRoutesSpec)

/-- 'selvedgelaw01.PlaceSweeps', WHERE WHAT IT READS IS OF BULK AT MOST 1048576: true; the input reads as it did. -/
def placeSweepsUptoRow : OpenClaim := { program := "ythembklejaabiaa", sum := "c33583c780446d640ffd69d2d3f7e47f160a1f8f21bde85fcb3d7d6da13dc902", func := "selvedge/selvedgelaw01.PlaceSweeps", spec := "placeSweeps", inPlace := ["math.Float64bits", "math.Float64frombits", "math.archTrunc"], unfollowed := true, recurses := true, apart := false, narrowed := true }
def PlaceSweepsUptoSaid : Prop := placeSweepsUptoRow.holds Try.pinned (OpenSpec.upto placeSweepsSpec)

/-- 'selvedgelaw01.PlaceSame', WHERE WHAT IT READS IS OF BULK AT MOST 1048576: true; the input reads as it did. -/
def placeSameUptoRow : OpenClaim := { program := "ythembklejaabiaa", sum := "c33583c780446d640ffd69d2d3f7e47f160a1f8f21bde85fcb3d7d6da13dc902", func := "selvedge/selvedgelaw01.PlaceSame", spec := "placeSame", inPlace := ["math.Float64bits", "math.Float64frombits", "math.archTrunc"], unfollowed := true, recurses := true, apart := false, narrowed := true }
def PlaceSameUptoSaid : Prop := placeSameUptoRow.holds Try.pinned (OpenSpec.upto placeSameSpec)

/-- 'selvedgetop.TopTrack', WHERE WHAT IT READS IS OF BULK AT MOST 1048576: true; the input reads as it did. -/
def topTrackUptoRow : OpenClaim := { program := "ythembklejaabiaa", sum := "c33583c780446d640ffd69d2d3f7e47f160a1f8f21bde85fcb3d7d6da13dc902", func := "selvedge/selvedgetop.TopTrack", spec := "topTrack", inPlace := ["math.Float64bits", "math.Float64frombits", "math.archTrunc"], unfollowed := true, recurses := true, apart := false, narrowed := true }
def TopTrackUptoSaid : Prop := topTrackUptoRow.holds Try.pinned (OpenSpec.upto topTrackSpec)

end Rows
end Go.Proofs.Ythembklejaabiaa
