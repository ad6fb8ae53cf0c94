/-
  No cell of these rows narrows 'for every input' (looked for: loops, veiled, ifaces, maps, wideKeys, modest, calm, conditions, laid).
  DERIVED. THE GIVEN ROWS OF THIS SEAT. 12 by the template 'for every input the law returns true; each argument reads behind the call as it read before'; 0 by the template 'total and deterministic' (their statements: YtgmioegepmoopaaTotals.lean).
  GIVEN WITH THE SEED: the statements are not yours to turn. If you find one false, say at which input.
  Laid BY PROGRAM, IN A SANDBOX (cutbox-rows.mjs): the forced cells as the released guide's own fill.sh prints them over the translation 31a856628646f5c4… (all of the seat's roots in one cut). By AI agents, Wed Nov 11 2026. No macro, syntax, notation, axiom, sorry.
-/
import Derived.Test.YtgmioegepmoopaaChecked
import GoSem.Claim
import GoSem.ClaimJoined
import GoSem.ClaimMapViews
import Derived.JoinedTies
import Derived.KernelRfl
namespace Go.Proofs.Ytgmioegepmoopaa
/- THE CELL 'sum', in the pinned program and in every row, IS THE sha256 OF THE DUMP (.gsa) THAT YtgmioegepmoopaaProg.lean LOADS. Nothing in Lean hashes anything: it is a label: what it is worth is what the hold of that sum in a sandbox is worth. -/
noncomputable def Try.pinned : Pinned := { name := "ytgmioegepmoopaa", sum := "31a856628646f5c4ede2f7e50a11e3b5eaf44ad61c46fe21c9f55245436dc595", checked := Try.checked }
namespace Rows
def none {H : Type} : Left H := { results := [], args := [] }

/-- 'laws.FnExactFromBits': WHATEVER THE INPUT: true; the input reads as it did. -/
def fnExactFromBitsSpec : ChangeSpec := { name := "fnExactFromBits", fn := fun _ => fun
  | [d] => { results := [.lit (.bool true)], args := [d] }
  | _ => none }
def fnExactFromBitsRow : OpenClaim := { program := "ytgmioegepmoopaa", sum := "31a856628646f5c4ede2f7e50a11e3b5eaf44ad61c46fe21c9f55245436dc595", func := "loop.example/g01317/laws.FnExactFromBits", spec := "fnExactFromBits", inPlace := ["math.Float32frombits"], apart := false }
def FnExactFromBitsSaid : Prop := fnExactFromBitsRow.holds Try.pinned (OpenSpec.ofChange fnExactFromBitsSpec)

/-- ITS FALSE NEIGHBOUR: 'it returns false'. Refute it at one input. -/
def fnExactFromBitsWrong : ChangeSpec := { name := "fnExactFromBits", fn := fun _ => fun
  | [d] => { results := [.lit (.bool false)], args := [d] }
  | _ => none }
def FnExactFromBitsWrongFalsely : Prop := fnExactFromBitsRow.holds Try.pinned (OpenSpec.ofChange fnExactFromBitsWrong)

/-- 'laws.FnExactMirrorAt': WHATEVER THE INPUT: true; the input reads as it did. -/
def fnExactMirrorAtSpec : ChangeSpec := { name := "fnExactMirrorAt", fn := fun _ => fun
  | [d1, d2] => { results := [.lit (.bool true)], args := [d1, d2] }
  | _ => none }
def fnExactMirrorAtRow : OpenClaim := { program := "ytgmioegepmoopaa", sum := "31a856628646f5c4ede2f7e50a11e3b5eaf44ad61c46fe21c9f55245436dc595", func := "loop.example/g01317/laws.FnExactMirrorAt", spec := "fnExactMirrorAt", apart := false }
def FnExactMirrorAtSaid : Prop := fnExactMirrorAtRow.holds Try.pinned (OpenSpec.ofChange fnExactMirrorAtSpec)

/-- ITS FALSE NEIGHBOUR: 'it returns false'. Refute it at one input. -/
def fnExactMirrorAtWrong : ChangeSpec := { name := "fnExactMirrorAt", fn := fun _ => fun
  | [d1, d2] => { results := [.lit (.bool false)], args := [d1, d2] }
  | _ => none }
def FnExactMirrorAtWrongFalsely : Prop := fnExactMirrorAtRow.holds Try.pinned (OpenSpec.ofChange fnExactMirrorAtWrong)

/-- 'laws.FnExactAreIntegers': WHATEVER THE INPUT: true; the input reads as it did. -/
def fnExactAreIntegersSpec : ChangeSpec := { name := "fnExactAreIntegers", fn := fun _ => fun
  | [d] => { results := [.lit (.bool true)], args := [d] }
  | _ => none }
def fnExactAreIntegersRow : OpenClaim := { program := "ytgmioegepmoopaa", sum := "31a856628646f5c4ede2f7e50a11e3b5eaf44ad61c46fe21c9f55245436dc595", func := "loop.example/g01317/laws.FnExactAreIntegers", spec := "fnExactAreIntegers", apart := false }
def FnExactAreIntegersSaid : Prop := fnExactAreIntegersRow.holds Try.pinned (OpenSpec.ofChange fnExactAreIntegersSpec)

/-- ITS FALSE NEIGHBOUR: 'it returns false'. Refute it at one input. -/
def fnExactAreIntegersWrong : ChangeSpec := { name := "fnExactAreIntegers", fn := fun _ => fun
  | [d] => { results := [.lit (.bool false)], args := [d] }
  | _ => none }
def FnExactAreIntegersWrongFalsely : Prop := fnExactAreIntegersRow.holds Try.pinned (OpenSpec.ofChange fnExactAreIntegersWrong)

/-- 'laws.FnExactFlushNumber': WHATEVER THE INPUT: true; the input reads as it did. -/
def fnExactFlushNumberSpec : ChangeSpec := { name := "fnExactFlushNumber", fn := fun _ => fun
  | [d] => { results := [.lit (.bool true)], args := [d] }
  | _ => none }
def fnExactFlushNumberRow : OpenClaim := { program := "ytgmioegepmoopaa", sum := "31a856628646f5c4ede2f7e50a11e3b5eaf44ad61c46fe21c9f55245436dc595", func := "loop.example/g01317/laws.FnExactFlushNumber", spec := "fnExactFlushNumber", inPlace := ["math.Float32bits", "math.Float32frombits", "math.Float64bits", "math.Float64frombits"], apart := false }
def FnExactFlushNumberSaid : Prop := fnExactFlushNumberRow.holds Try.pinned (OpenSpec.ofChange fnExactFlushNumberSpec)

/-- ITS FALSE NEIGHBOUR: 'it returns false'. Refute it at one input. -/
def fnExactFlushNumberWrong : ChangeSpec := { name := "fnExactFlushNumber", fn := fun _ => fun
  | [d] => { results := [.lit (.bool false)], args := [d] }
  | _ => none }
def FnExactFlushNumberWrongFalsely : Prop := fnExactFlushNumberRow.holds Try.pinned (OpenSpec.ofChange fnExactFlushNumberWrong)

/-- 'laws.FnExactCoverOf': WHATEVER THE INPUT: true; the input reads as it did. -/
def fnExactCoverOfSpec : ChangeSpec := { name := "fnExactCoverOf", fn := fun _ => fun
  | [d1, d2, d3, d4] => { results := [.lit (.bool true)], args := [d1, d2, d3, d4] }
  | _ => none }
def fnExactCoverOfRow : OpenClaim := { program := "ytgmioegepmoopaa", sum := "31a856628646f5c4ede2f7e50a11e3b5eaf44ad61c46fe21c9f55245436dc595", func := "loop.example/g01317/laws.FnExactCoverOf", spec := "fnExactCoverOf", apart := false }
def FnExactCoverOfSaid : Prop := fnExactCoverOfRow.holds Try.pinned (OpenSpec.ofChange fnExactCoverOfSpec)

/-- ITS FALSE NEIGHBOUR: 'it returns false'. Refute it at one input. -/
def fnExactCoverOfWrong : ChangeSpec := { name := "fnExactCoverOf", fn := fun _ => fun
  | [d1, d2, d3, d4] => { results := [.lit (.bool false)], args := [d1, d2, d3, d4] }
  | _ => none }
def FnExactCoverOfWrongFalsely : Prop := fnExactCoverOfRow.holds Try.pinned (OpenSpec.ofChange fnExactCoverOfWrong)

/-- 'laws.FnExactDotNumbers': WHATEVER THE INPUT: true; the input reads as it did. -/
def fnExactDotNumbersSpec : ChangeSpec := { name := "fnExactDotNumbers", fn := fun _ => fun
  | [d1, d2] => { results := [.lit (.bool true)], args := [d1, d2] }
  | _ => none }
def fnExactDotNumbersRow : OpenClaim := { program := "ytgmioegepmoopaa", sum := "31a856628646f5c4ede2f7e50a11e3b5eaf44ad61c46fe21c9f55245436dc595", func := "loop.example/g01317/laws.FnExactDotNumbers", spec := "fnExactDotNumbers", apart := false }
def FnExactDotNumbersSaid : Prop := fnExactDotNumbersRow.holds Try.pinned (OpenSpec.ofChange fnExactDotNumbersSpec)

/-- ITS FALSE NEIGHBOUR: 'it returns false'. Refute it at one input. -/
def fnExactDotNumbersWrong : ChangeSpec := { name := "fnExactDotNumbers", fn := fun _ => fun
  | [d1, d2] => { results := [.lit (.bool false)], args := [d1, d2] }
  | _ => none }
def FnExactDotNumbersWrongFalsely : Prop := fnExactDotNumbersRow.holds Try.pinned (OpenSpec.ofChange fnExactDotNumbersWrong)

/-- 'laws.FnExactSumNumbers': WHATEVER THE INPUT: true; the input reads as it did. -/
def fnExactSumNumbersSpec : ChangeSpec := { name := "fnExactSumNumbers", fn := fun _ => fun
  | [d] => { results := [.lit (.bool true)], args := [d] }
  | _ => none }
def fnExactSumNumbersRow : OpenClaim := { program := "ytgmioegepmoopaa", sum := "31a856628646f5c4ede2f7e50a11e3b5eaf44ad61c46fe21c9f55245436dc595", func := "loop.example/g01317/laws.FnExactSumNumbers", spec := "fnExactSumNumbers", apart := false }
def FnExactSumNumbersSaid : Prop := fnExactSumNumbersRow.holds Try.pinned (OpenSpec.ofChange fnExactSumNumbersSpec)

/-- ITS FALSE NEIGHBOUR: 'it returns false'. Refute it at one input. -/
def fnExactSumNumbersWrong : ChangeSpec := { name := "fnExactSumNumbers", fn := fun _ => fun
  | [d] => { results := [.lit (.bool false)], args := [d] }
  | _ => none }
def FnExactSumNumbersWrongFalsely : Prop := fnExactSumNumbersRow.holds Try.pinned (OpenSpec.ofChange fnExactSumNumbersWrong)

/-- 'laws.FnExactBandSizes': WHATEVER THE INPUT: true; the input reads as it did. -/
def fnExactBandSizesSpec : ChangeSpec := { name := "fnExactBandSizes", fn := fun _ => fun
  | [d1, d2] => { results := [.lit (.bool true)], args := [d1, d2] }
  | _ => none }
def fnExactBandSizesRow : OpenClaim := { program := "ytgmioegepmoopaa", sum := "31a856628646f5c4ede2f7e50a11e3b5eaf44ad61c46fe21c9f55245436dc595", func := "loop.example/g01317/laws.FnExactBandSizes", spec := "fnExactBandSizes", apart := false }
def FnExactBandSizesSaid : Prop := fnExactBandSizesRow.holds Try.pinned (OpenSpec.ofChange fnExactBandSizesSpec)

/-- ITS FALSE NEIGHBOUR: 'it returns false'. Refute it at one input. -/
def fnExactBandSizesWrong : ChangeSpec := { name := "fnExactBandSizes", fn := fun _ => fun
  | [d1, d2] => { results := [.lit (.bool false)], args := [d1, d2] }
  | _ => none }
def FnExactBandSizesWrongFalsely : Prop := fnExactBandSizesRow.holds Try.pinned (OpenSpec.ofChange fnExactBandSizesWrong)

/-- 'laws.FnExactIsList': WHATEVER THE INPUT: true; the input reads as it did. -/
def fnExactIsListSpec : ChangeSpec := { name := "fnExactIsList", fn := fun _ => fun
  | [d] => { results := [.lit (.bool true)], args := [d] }
  | _ => none }
def fnExactIsListRow : OpenClaim := { program := "ytgmioegepmoopaa", sum := "31a856628646f5c4ede2f7e50a11e3b5eaf44ad61c46fe21c9f55245436dc595", func := "loop.example/g01317/laws.FnExactIsList", spec := "fnExactIsList", apart := false }
def FnExactIsListSaid : Prop := fnExactIsListRow.holds Try.pinned (OpenSpec.ofChange fnExactIsListSpec)

/-- ITS FALSE NEIGHBOUR: 'it returns false'. Refute it at one input. -/
def fnExactIsListWrong : ChangeSpec := { name := "fnExactIsList", fn := fun _ => fun
  | [d] => { results := [.lit (.bool false)], args := [d] }
  | _ => none }
def FnExactIsListWrongFalsely : Prop := fnExactIsListRow.holds Try.pinned (OpenSpec.ofChange fnExactIsListWrong)

/-- 'laws.FnExactLinesScheme': WHATEVER THE INPUT: true; the input reads as it did. -/
def fnExactLinesSchemeSpec : ChangeSpec := { name := "fnExactLinesScheme", fn := fun _ => fun
  | [] => { results := [.lit (.bool true)], args := [] }
  | _ => none }
def fnExactLinesSchemeRow : OpenClaim := { program := "ytgmioegepmoopaa", sum := "31a856628646f5c4ede2f7e50a11e3b5eaf44ad61c46fe21c9f55245436dc595", func := "loop.example/g01317/laws.FnExactLinesScheme", spec := "fnExactLinesScheme", apart := false }
def FnExactLinesSchemeSaid : Prop := fnExactLinesSchemeRow.holds Try.pinned (OpenSpec.ofChange fnExactLinesSchemeSpec)

/-- ITS FALSE NEIGHBOUR: 'it returns false'. Refute it at one input. -/
def fnExactLinesSchemeWrong : ChangeSpec := { name := "fnExactLinesScheme", fn := fun _ => fun
  | [] => { results := [.lit (.bool false)], args := [] }
  | _ => none }
def FnExactLinesSchemeWrongFalsely : Prop := fnExactLinesSchemeRow.holds Try.pinned (OpenSpec.ofChange fnExactLinesSchemeWrong)

/-- 'laws.FnExactNineScheme': WHATEVER THE INPUT: true; the input reads as it did. -/
def fnExactNineSchemeSpec : ChangeSpec := { name := "fnExactNineScheme", fn := fun _ => fun
  | [] => { results := [.lit (.bool true)], args := [] }
  | _ => none }
def fnExactNineSchemeRow : OpenClaim := { program := "ytgmioegepmoopaa", sum := "31a856628646f5c4ede2f7e50a11e3b5eaf44ad61c46fe21c9f55245436dc595", func := "loop.example/g01317/laws.FnExactNineScheme", spec := "fnExactNineScheme", apart := false }
def FnExactNineSchemeSaid : Prop := fnExactNineSchemeRow.holds Try.pinned (OpenSpec.ofChange fnExactNineSchemeSpec)

/-- ITS FALSE NEIGHBOUR: 'it returns false'. Refute it at one input. -/
def fnExactNineSchemeWrong : ChangeSpec := { name := "fnExactNineScheme", fn := fun _ => fun
  | [] => { results := [.lit (.bool false)], args := [] }
  | _ => none }
def FnExactNineSchemeWrongFalsely : Prop := fnExactNineSchemeRow.holds Try.pinned (OpenSpec.ofChange fnExactNineSchemeWrong)

/-- 'laws.FnExactSplitIntegers': WHATEVER THE INPUT: true; the input reads as it did. -/
def fnExactSplitIntegersSpec : ChangeSpec := { name := "fnExactSplitIntegers", fn := fun _ => fun
  | [d] => { results := [.lit (.bool true)], args := [d] }
  | _ => none }
def fnExactSplitIntegersRow : OpenClaim := { program := "ytgmioegepmoopaa", sum := "31a856628646f5c4ede2f7e50a11e3b5eaf44ad61c46fe21c9f55245436dc595", func := "loop.example/g01317/laws.FnExactSplitIntegers", spec := "fnExactSplitIntegers", apart := false }
def FnExactSplitIntegersSaid : Prop := fnExactSplitIntegersRow.holds Try.pinned (OpenSpec.ofChange fnExactSplitIntegersSpec)

/-- ITS FALSE NEIGHBOUR: 'it returns false'. Refute it at one input. -/
def fnExactSplitIntegersWrong : ChangeSpec := { name := "fnExactSplitIntegers", fn := fun _ => fun
  | [d] => { results := [.lit (.bool false)], args := [d] }
  | _ => none }
def FnExactSplitIntegersWrongFalsely : Prop := fnExactSplitIntegersRow.holds Try.pinned (OpenSpec.ofChange fnExactSplitIntegersWrong)

/- THE SECOND FORM. 'bulk': how many values and letters a reading holds, each counted each time it is reached (what is shared counts as often as it is met; a slice's spare places count too). A statement '..UptoSaid' is the law's where the arguments, and the package variables that the reading takes, are together of bulk at most 1048576: NARROWER than '..Said'. Prove '..Said' where nothing that the law and all that it calls make is longer than what came in: it says more and counts as full. Else prove '..UptoSaid'. A law counts once. -/
mutual
def uptoBulk {H : Type} : DataW H → Nat
  | .lit (.string bytes) => bytes.length + 1
  | .lit _ => 1
  | .nil => 1
  | .ptr d => uptoBulk d + 1
  | .slice elems spare => uptoBulkAll elems + uptoBulkAll spare + 1
  | .agg parts => uptoBulkAll parts + 1
  | .iface _ d => uptoBulk d + 1
  | .map entries => uptoBulkEntries entries + 1
  | .held _ => 1
def uptoBulkAll {H : Type} : List (DataW H) → Nat
  | [] => 0
  | d :: r => uptoBulk d + uptoBulkAll r
def uptoBulkEntries {H : Type} : List (Lit × DataW H) → Nat
  | [] => 0
  | x :: r => uptoBulkEntry x + uptoBulkEntries r
def uptoBulkEntry {H : Type} : Lit × DataW H → Nat
  | (.string bytes, d) => bytes.length + uptoBulk d + 1
  | (_, d) => uptoBulk d + 1
 end
def uptoSmall : (H : Type) → List (DataW H) → Bool := fun _ ds => decide (uptoBulkAll ds ≤ 1048576)
def OpenSpec.upto (s : _root_.Go.ChangeSpec) : _root_.Go.OpenSpec := { _root_.Go.OpenSpec.ofChange s with cond := some uptoSmall }

/-- 'laws.FnExactFromBits', WHERE WHAT IT READS IS OF BULK AT MOST 1048576: true; the input reads as it did. -/
def fnExactFromBitsUptoRow : OpenClaim := { program := "ytgmioegepmoopaa", sum := "31a856628646f5c4ede2f7e50a11e3b5eaf44ad61c46fe21c9f55245436dc595", func := "loop.example/g01317/laws.FnExactFromBits", spec := "fnExactFromBits", inPlace := ["math.Float32frombits"], apart := false, narrowed := true }
def FnExactFromBitsUptoSaid : Prop := fnExactFromBitsUptoRow.holds Try.pinned (OpenSpec.upto fnExactFromBitsSpec)

/-- 'laws.FnExactMirrorAt', WHERE WHAT IT READS IS OF BULK AT MOST 1048576: true; the input reads as it did. -/
def fnExactMirrorAtUptoRow : OpenClaim := { program := "ytgmioegepmoopaa", sum := "31a856628646f5c4ede2f7e50a11e3b5eaf44ad61c46fe21c9f55245436dc595", func := "loop.example/g01317/laws.FnExactMirrorAt", spec := "fnExactMirrorAt", apart := false, narrowed := true }
def FnExactMirrorAtUptoSaid : Prop := fnExactMirrorAtUptoRow.holds Try.pinned (OpenSpec.upto fnExactMirrorAtSpec)

/-- 'laws.FnExactAreIntegers', WHERE WHAT IT READS IS OF BULK AT MOST 1048576: true; the input reads as it did. -/
def fnExactAreIntegersUptoRow : OpenClaim := { program := "ytgmioegepmoopaa", sum := "31a856628646f5c4ede2f7e50a11e3b5eaf44ad61c46fe21c9f55245436dc595", func := "loop.example/g01317/laws.FnExactAreIntegers", spec := "fnExactAreIntegers", apart := false, narrowed := true }
def FnExactAreIntegersUptoSaid : Prop := fnExactAreIntegersUptoRow.holds Try.pinned (OpenSpec.upto fnExactAreIntegersSpec)

/-- 'laws.FnExactFlushNumber', WHERE WHAT IT READS IS OF BULK AT MOST 1048576: true; the input reads as it did. -/
def fnExactFlushNumberUptoRow : OpenClaim := { program := "ytgmioegepmoopaa", sum := "31a856628646f5c4ede2f7e50a11e3b5eaf44ad61c46fe21c9f55245436dc595", func := "loop.example/g01317/laws.FnExactFlushNumber", spec := "fnExactFlushNumber", inPlace := ["math.Float32bits", "math.Float32frombits", "math.Float64bits", "math.Float64frombits"], apart := false, narrowed := true }
def FnExactFlushNumberUptoSaid : Prop := fnExactFlushNumberUptoRow.holds Try.pinned (OpenSpec.upto fnExactFlushNumberSpec)

/-- 'laws.FnExactCoverOf', WHERE WHAT IT READS IS OF BULK AT MOST 1048576: true; the input reads as it did. -/
def fnExactCoverOfUptoRow : OpenClaim := { program := "ytgmioegepmoopaa", sum := "31a856628646f5c4ede2f7e50a11e3b5eaf44ad61c46fe21c9f55245436dc595", func := "loop.example/g01317/laws.FnExactCoverOf", spec := "fnExactCoverOf", apart := false, narrowed := true }
def FnExactCoverOfUptoSaid : Prop := fnExactCoverOfUptoRow.holds Try.pinned (OpenSpec.upto fnExactCoverOfSpec)

/-- 'laws.FnExactDotNumbers', WHERE WHAT IT READS IS OF BULK AT MOST 1048576: true; the input reads as it did. -/
def fnExactDotNumbersUptoRow : OpenClaim := { program := "ytgmioegepmoopaa", sum := "31a856628646f5c4ede2f7e50a11e3b5eaf44ad61c46fe21c9f55245436dc595", func := "loop.example/g01317/laws.FnExactDotNumbers", spec := "fnExactDotNumbers", apart := false, narrowed := true }
def FnExactDotNumbersUptoSaid : Prop := fnExactDotNumbersUptoRow.holds Try.pinned (OpenSpec.upto fnExactDotNumbersSpec)

/-- 'laws.FnExactSumNumbers', WHERE WHAT IT READS IS OF BULK AT MOST 1048576: true; the input reads as it did. -/
def fnExactSumNumbersUptoRow : OpenClaim := { program := "ytgmioegepmoopaa", sum := "31a856628646f5c4ede2f7e50a11e3b5eaf44ad61c46fe21c9f55245436dc595", func := "loop.example/g01317/laws.FnExactSumNumbers", spec := "fnExactSumNumbers", apart := false, narrowed := true }
def FnExactSumNumbersUptoSaid : Prop := fnExactSumNumbersUptoRow.holds Try.pinned (OpenSpec.upto fnExactSumNumbersSpec)

/-- 'laws.FnExactBandSizes', WHERE WHAT IT READS IS OF BULK AT MOST 1048576: true; the input reads as it did. -/
def fnExactBandSizesUptoRow : OpenClaim := { program := "ytgmioegepmoopaa", sum := "31a856628646f5c4ede2f7e50a11e3b5eaf44ad61c46fe21c9f55245436dc595", func := "loop.example/g01317/laws.FnExactBandSizes", spec := "fnExactBandSizes", apart := false, narrowed := true }
def FnExactBandSizesUptoSaid : Prop := fnExactBandSizesUptoRow.holds Try.pinned (OpenSpec.upto fnExactBandSizesSpec)

/-- 'laws.FnExactIsList', WHERE WHAT IT READS IS OF BULK AT MOST 1048576: true; the input reads as it did. -/
def fnExactIsListUptoRow : OpenClaim := { program := "ytgmioegepmoopaa", sum := "31a856628646f5c4ede2f7e50a11e3b5eaf44ad61c46fe21c9f55245436dc595", func := "loop.example/g01317/laws.FnExactIsList", spec := "fnExactIsList", apart := false, narrowed := true }
def FnExactIsListUptoSaid : Prop := fnExactIsListUptoRow.holds Try.pinned (OpenSpec.upto fnExactIsListSpec)

/-- 'laws.FnExactLinesScheme', WHERE WHAT IT READS IS OF BULK AT MOST 1048576: true; the input reads as it did. -/
def fnExactLinesSchemeUptoRow : OpenClaim := { program := "ytgmioegepmoopaa", sum := "31a856628646f5c4ede2f7e50a11e3b5eaf44ad61c46fe21c9f55245436dc595", func := "loop.example/g01317/laws.FnExactLinesScheme", spec := "fnExactLinesScheme", apart := false, narrowed := true }
def FnExactLinesSchemeUptoSaid : Prop := fnExactLinesSchemeUptoRow.holds Try.pinned (OpenSpec.upto fnExactLinesSchemeSpec)

/-- 'laws.FnExactNineScheme', WHERE WHAT IT READS IS OF BULK AT MOST 1048576: true; the input reads as it did. -/
def fnExactNineSchemeUptoRow : OpenClaim := { program := "ytgmioegepmoopaa", sum := "31a856628646f5c4ede2f7e50a11e3b5eaf44ad61c46fe21c9f55245436dc595", func := "loop.example/g01317/laws.FnExactNineScheme", spec := "fnExactNineScheme", apart := false, narrowed := true }
def FnExactNineSchemeUptoSaid : Prop := fnExactNineSchemeUptoRow.holds Try.pinned (OpenSpec.upto fnExactNineSchemeSpec)

/-- 'laws.FnExactSplitIntegers', WHERE WHAT IT READS IS OF BULK AT MOST 1048576: true; the input reads as it did. -/
def fnExactSplitIntegersUptoRow : OpenClaim := { program := "ytgmioegepmoopaa", sum := "31a856628646f5c4ede2f7e50a11e3b5eaf44ad61c46fe21c9f55245436dc595", func := "loop.example/g01317/laws.FnExactSplitIntegers", spec := "fnExactSplitIntegers", apart := false, narrowed := true }
def FnExactSplitIntegersUptoSaid : Prop := fnExactSplitIntegersUptoRow.holds Try.pinned (OpenSpec.upto fnExactSplitIntegersSpec)

end Rows
end Go.Proofs.Ytgmioegepmoopaa
