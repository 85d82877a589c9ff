/-
  No cell of these rows narrows 'for every input' (looked for: loops, veiled, ifaces, maps, wideKeys, modest, calm, conditions, laid).
  DERIVED. THE GIVEN ROWS OF THIS SEAT. 7 by the template 'for every input the law returns true; each argument reads behind the call as it read before'; 0 by the template 'total and deterministic' (their statements: YtlmnagbfmkaglaaTotals.lean).
  GIVEN WITH THE SEED: the statements are not yours to turn. If you find one false, say at which input.
  Laid BY PROGRAM, IN A SANDBOX (cutbox-rows.mjs): the forced cells as the released guide's own fill.sh prints them over the translation db170ef351789028… (all of the seat's roots in one cut). By AI agents, Wed Nov 11 2026. No macro, syntax, notation, axiom, sorry.
-/
import Derived.Test.YtlmnagbfmkaglaaChecked
import GoSem.Claim
import GoSem.ClaimJoined
import GoSem.ClaimMapViews
import Derived.JoinedTies
import Derived.KernelRfl
namespace Go.Proofs.Ytlmnagbfmkaglaa
/- THE CELL 'sum', in the pinned program and in every row, IS THE sha256 OF THE DUMP (.gsa) THAT YtlmnagbfmkaglaaProg.lean LOADS. Nothing in Lean hashes anything: it is a label: what it is worth is what the hold of that sum in a sandbox is worth. -/
noncomputable def Try.pinned : Pinned := { name := "ytlmnagbfmkaglaa", sum := "db170ef35178902862fcdd9dacdeed37b2078a7b78465d58e31c02667700f920", checked := Try.checked }
namespace Rows
def none {H : Type} : Left H := { results := [], args := [] }

/-- 'selvedgelaw08.CacheOrder': WHATEVER THE INPUT: true; the input reads as it did. -/
def cacheOrderSpec : ChangeSpec := { name := "cacheOrder", fn := fun _ => fun
  | [d1, d2, d3] => { results := [.lit (.bool true)], args := [d1, d2, d3] }
  | _ => none }
def cacheOrderRow : OpenClaim := { program := "ytlmnagbfmkaglaa", sum := "db170ef35178902862fcdd9dacdeed37b2078a7b78465d58e31c02667700f920", func := "selvedge/selvedgelaw08.CacheOrder", spec := "cacheOrder", unfollowed := true, recurses := true, apart := false }
def CacheOrderSaid : Prop := cacheOrderRow.holds Try.pinned (OpenSpec.ofChange cacheOrderSpec)

/-- ITS FALSE NEIGHBOUR: 'it returns false'. Refute it at one input. -/
def cacheOrderWrong : ChangeSpec := { name := "cacheOrder", fn := fun _ => fun
  | [d1, d2, d3] => { results := [.lit (.bool false)], args := [d1, d2, d3] }
  | _ => none }
def CacheOrderWrongFalsely : Prop := cacheOrderRow.holds Try.pinned (OpenSpec.ofChange cacheOrderWrong)

/-- 'selvedgelaw08.CacheHeld': WHATEVER THE INPUT: true; the input reads as it did. -/
def cacheHeldSpec : ChangeSpec := { name := "cacheHeld", fn := fun _ => fun
  | [d1, d2, d3] => { results := [.lit (.bool true)], args := [d1, d2, d3] }
  | _ => none }
def cacheHeldRow : OpenClaim := { program := "ytlmnagbfmkaglaa", sum := "db170ef35178902862fcdd9dacdeed37b2078a7b78465d58e31c02667700f920", func := "selvedge/selvedgelaw08.CacheHeld", spec := "cacheHeld", unfollowed := true, recurses := true, apart := false }
def CacheHeldSaid : Prop := cacheHeldRow.holds Try.pinned (OpenSpec.ofChange cacheHeldSpec)

/-- ITS FALSE NEIGHBOUR: 'it returns false'. Refute it at one input. -/
def cacheHeldWrong : ChangeSpec := { name := "cacheHeld", fn := fun _ => fun
  | [d1, d2, d3] => { results := [.lit (.bool false)], args := [d1, d2, d3] }
  | _ => none }
def CacheHeldWrongFalsely : Prop := cacheHeldRow.holds Try.pinned (OpenSpec.ofChange cacheHeldWrong)

/-- 'selvedgelaw08.CachePlays': WHATEVER THE INPUT: true; the input reads as it did. -/
def cachePlaysSpec : ChangeSpec := { name := "cachePlays", fn := fun _ => fun
  | [d1, d2] => { results := [.lit (.bool true)], args := [d1, d2] }
  | _ => none }
def cachePlaysRow : OpenClaim := { program := "ytlmnagbfmkaglaa", sum := "db170ef35178902862fcdd9dacdeed37b2078a7b78465d58e31c02667700f920", func := "selvedge/selvedgelaw08.CachePlays", spec := "cachePlays", unfollowed := true, recurses := true, apart := false }
def CachePlaysSaid : Prop := cachePlaysRow.holds Try.pinned (OpenSpec.ofChange cachePlaysSpec)

/-- ITS FALSE NEIGHBOUR: 'it returns false'. Refute it at one input. -/
def cachePlaysWrong : ChangeSpec := { name := "cachePlays", fn := fun _ => fun
  | [d1, d2] => { results := [.lit (.bool false)], args := [d1, d2] }
  | _ => none }
def CachePlaysWrongFalsely : Prop := cachePlaysRow.holds Try.pinned (OpenSpec.ofChange cachePlaysWrong)

/-- 'selvedgelaw08.CacheFew': WHATEVER THE INPUT: true; the input reads as it did. -/
def cacheFewSpec : ChangeSpec := { name := "cacheFew", fn := fun _ => fun
  | [d1, d2, d3] => { results := [.lit (.bool true)], args := [d1, d2, d3] }
  | _ => none }
def cacheFewRow : OpenClaim := { program := "ytlmnagbfmkaglaa", sum := "db170ef35178902862fcdd9dacdeed37b2078a7b78465d58e31c02667700f920", func := "selvedge/selvedgelaw08.CacheFew", spec := "cacheFew", unfollowed := true, recurses := true, apart := false }
def CacheFewSaid : Prop := cacheFewRow.holds Try.pinned (OpenSpec.ofChange cacheFewSpec)

/-- ITS FALSE NEIGHBOUR: 'it returns false'. Refute it at one input. -/
def cacheFewWrong : ChangeSpec := { name := "cacheFew", fn := fun _ => fun
  | [d1, d2, d3] => { results := [.lit (.bool false)], args := [d1, d2, d3] }
  | _ => none }
def CacheFewWrongFalsely : Prop := cacheFewRow.holds Try.pinned (OpenSpec.ofChange cacheFewWrong)

/-- 'selvedgelaw08.CachePins': WHATEVER THE INPUT: true; the input reads as it did. -/
def cachePinsSpec : ChangeSpec := { name := "cachePins", fn := fun _ => fun
  | [d1, d2, d3] => { results := [.lit (.bool true)], args := [d1, d2, d3] }
  | _ => none }
def cachePinsRow : OpenClaim := { program := "ytlmnagbfmkaglaa", sum := "db170ef35178902862fcdd9dacdeed37b2078a7b78465d58e31c02667700f920", func := "selvedge/selvedgelaw08.CachePins", spec := "cachePins", unfollowed := true, recurses := true, apart := false }
def CachePinsSaid : Prop := cachePinsRow.holds Try.pinned (OpenSpec.ofChange cachePinsSpec)

/-- ITS FALSE NEIGHBOUR: 'it returns false'. Refute it at one input. -/
def cachePinsWrong : ChangeSpec := { name := "cachePins", fn := fun _ => fun
  | [d1, d2, d3] => { results := [.lit (.bool false)], args := [d1, d2, d3] }
  | _ => none }
def CachePinsWrongFalsely : Prop := cachePinsRow.holds Try.pinned (OpenSpec.ofChange cachePinsWrong)

/-- 'selvedgelaw08.CacheForks': WHATEVER THE INPUT: true; the input reads as it did. -/
def cacheForksSpec : ChangeSpec := { name := "cacheForks", fn := fun _ => fun
  | [d1, d2] => { results := [.lit (.bool true)], args := [d1, d2] }
  | _ => none }
def cacheForksRow : OpenClaim := { program := "ytlmnagbfmkaglaa", sum := "db170ef35178902862fcdd9dacdeed37b2078a7b78465d58e31c02667700f920", func := "selvedge/selvedgelaw08.CacheForks", spec := "cacheForks", unfollowed := true, recurses := true, apart := false }
def CacheForksSaid : Prop := cacheForksRow.holds Try.pinned (OpenSpec.ofChange cacheForksSpec)

/-- ITS FALSE NEIGHBOUR: 'it returns false'. Refute it at one input. -/
def cacheForksWrong : ChangeSpec := { name := "cacheForks", fn := fun _ => fun
  | [d1, d2] => { results := [.lit (.bool false)], args := [d1, d2] }
  | _ => none }
def CacheForksWrongFalsely : Prop := cacheForksRow.holds Try.pinned (OpenSpec.ofChange cacheForksWrong)

/-- 'selvedgelaw08.CacheNone': WHATEVER THE INPUT: true; the input reads as it did. -/
def cacheNoneSpec : ChangeSpec := { name := "cacheNone", fn := fun _ => fun
  | [d1, d2] => { results := [.lit (.bool true)], args := [d1, d2] }
  | _ => none }
def cacheNoneRow : OpenClaim := { program := "ytlmnagbfmkaglaa", sum := "db170ef35178902862fcdd9dacdeed37b2078a7b78465d58e31c02667700f920", func := "selvedge/selvedgelaw08.CacheNone", spec := "cacheNone", unfollowed := true, recurses := true, apart := false }
def CacheNoneSaid : Prop := cacheNoneRow.holds Try.pinned (OpenSpec.ofChange cacheNoneSpec)

/-- ITS FALSE NEIGHBOUR: 'it returns false'. Refute it at one input. -/
def cacheNoneWrong : ChangeSpec := { name := "cacheNone", fn := fun _ => fun
  | [d1, d2] => { results := [.lit (.bool false)], args := [d1, d2] }
  | _ => none }
def CacheNoneWrongFalsely : Prop := cacheNoneRow.holds Try.pinned (OpenSpec.ofChange cacheNoneWrong)

/- THE SECOND FORM. 'bulk': how many values and letters a reading holds, each counted each time it is reached (what is shared counts as often as it is met; a slice's spare places count too). A statement '..UptoSaid' is the law's where the arguments, and the package variables that the reading takes, are together of bulk at most 1048576: NARROWER than '..Said'. Prove '..Said' where nothing that the law and all that it calls make is longer than what came in: it says more and counts as full. Else prove '..UptoSaid'. A law counts once. -/
mutual
def uptoBulk {H : Type} : DataW H → Nat
  | .lit (.string bytes) => bytes.length + 1
  | .lit _ => 1
  | .nil => 1
  | .ptr d => uptoBulk d + 1
  | .slice elems spare => uptoBulkAll elems + uptoBulkAll spare + 1
  | .agg parts => uptoBulkAll parts + 1
  | .iface _ d => uptoBulk d + 1
  | .map entries => uptoBulkEntries entries + 1
  | .held _ => 1
def uptoBulkAll {H : Type} : List (DataW H) → Nat
  | [] => 0
  | d :: r => uptoBulk d + uptoBulkAll r
def uptoBulkEntries {H : Type} : List (Lit × DataW H) → Nat
  | [] => 0
  | x :: r => uptoBulkEntry x + uptoBulkEntries r
def uptoBulkEntry {H : Type} : Lit × DataW H → Nat
  | (.string bytes, d) => bytes.length + uptoBulk d + 1
  | (_, d) => uptoBulk d + 1
 end
def uptoSmall : (H : Type) → List (DataW H) → Bool := fun _ ds => decide (uptoBulkAll ds ≤ 1048576)
def OpenSpec.upto (s : _root_.Go.ChangeSpec) : _root_.Go.OpenSpec := { _root_.Go.OpenSpec.ofChange s with cond := some uptoSmall }

/-- 'selvedgelaw08.CacheOrder', WHERE WHAT IT READS IS OF BULK AT MOST 1048576: true; the input reads as it did. -/
def cacheOrderUptoRow : OpenClaim := { program := "ytlmnagbfmkaglaa", sum := "db170ef35178902862fcdd9dacdeed37b2078a7b78465d58e31c02667700f920", func := "selvedge/selvedgelaw08.CacheOrder", spec := "cacheOrder", unfollowed := true, recurses := true, apart := false, narrowed := true }
def CacheOrderUptoSaid : Prop := cacheOrderUptoRow.holds Try.pinned (OpenSpec.upto cacheOrderSpec)

/-- 'selvedgelaw08.CacheHeld', WHERE WHAT IT READS IS OF BULK AT MOST 1048576: true; the input reads as it did. -/
def cacheHeldUptoRow : OpenClaim := { program := "ytlmnagbfmkaglaa", sum := "db170ef35178902862fcdd9dacdeed37b2078a7b78465d58e31c02667700f920", func := "selvedge/selvedgelaw08.CacheHeld", spec := "cacheHeld", unfollowed := true, recurses := true, apart := false, narrowed := true }
def CacheHeldUptoSaid : Prop := cacheHeldUptoRow.holds Try.pinned (OpenSpec.upto cacheHeldSpec)

/-- 'selvedgelaw08.CachePlays', WHERE WHAT IT READS IS OF BULK AT MOST 1048576: true; the input reads as it did. -/
def cachePlaysUptoRow : OpenClaim := { program := "ytlmnagbfmkaglaa", sum := "db170ef35178902862fcdd9dacdeed37b2078a7b78465d58e31c02667700f920", func := "selvedge/selvedgelaw08.CachePlays", spec := "cachePlays", unfollowed := true, recurses := true, apart := false, narrowed := true }
def CachePlaysUptoSaid : Prop := cachePlaysUptoRow.holds Try.pinned (OpenSpec.upto cachePlaysSpec)

/-- 'selvedgelaw08.CacheFew', WHERE WHAT IT READS IS OF BULK AT MOST 1048576: true; the input reads as it did. -/
def cacheFewUptoRow : OpenClaim := { program := "ytlmnagbfmkaglaa", sum := "db170ef35178902862fcdd9dacdeed37b2078a7b78465d58e31c02667700f920", func := "selvedge/selvedgelaw08.CacheFew", spec := "cacheFew", unfollowed := true, recurses := true, apart := false, narrowed := true }
def CacheFewUptoSaid : Prop := cacheFewUptoRow.holds Try.pinned (OpenSpec.upto cacheFewSpec)

/-- 'selvedgelaw08.CachePins', WHERE WHAT IT READS IS OF BULK AT MOST 1048576: true; the input reads as it did. -/
def cachePinsUptoRow : OpenClaim := { program := "ytlmnagbfmkaglaa", sum := "db170ef35178902862fcdd9dacdeed37b2078a7b78465d58e31c02667700f920", func := "selvedge/selvedgelaw08.CachePins", spec := "cachePins", unfollowed := true, recurses := true, apart := false, narrowed := true }
def CachePinsUptoSaid : Prop := cachePinsUptoRow.holds Try.pinned (OpenSpec.upto cachePinsSpec)

/-- 'selvedgelaw08.CacheForks', WHERE WHAT IT READS IS OF BULK AT MOST 1048576: true; the input reads as it did. -/
def cacheForksUptoRow : OpenClaim := { program := "ytlmnagbfmkaglaa", sum := "db170ef35178902862fcdd9dacdeed37b2078a7b78465d58e31c02667700f920", func := "selvedge/selvedgelaw08.CacheForks", spec := "cacheForks", unfollowed := true, recurses := true, apart := false, narrowed := true }
def CacheForksUptoSaid : Prop := cacheForksUptoRow.holds Try.pinned (OpenSpec.upto cacheForksSpec)

/-- 'selvedgelaw08.CacheNone', WHERE WHAT IT READS IS OF BULK AT MOST 1048576: true; the input reads as it did. -/
def cacheNoneUptoRow : OpenClaim := { program := "ytlmnagbfmkaglaa", sum := "db170ef35178902862fcdd9dacdeed37b2078a7b78465d58e31c02667700f920", func := "selvedge/selvedgelaw08.CacheNone", spec := "cacheNone", unfollowed := true, recurses := true, apart := false, narrowed := true }
def CacheNoneUptoSaid : Prop := cacheNoneUptoRow.holds Try.pinned (OpenSpec.upto cacheNoneSpec)

end Rows
end Go.Proofs.Ytlmnagbfmkaglaa
