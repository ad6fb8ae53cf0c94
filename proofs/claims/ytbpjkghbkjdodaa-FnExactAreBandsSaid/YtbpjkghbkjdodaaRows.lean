/-
  No cell of these rows narrows 'for every input' (looked for: loops, veiled, ifaces, maps, wideKeys, modest, calm, conditions, laid).
  DERIVED. THE GIVEN ROWS OF THIS SEAT. 6 by the template 'for every input the law returns true; each argument reads behind the call as it read before'; 0 by the template 'total and deterministic' (their statements: YtbpjkghbkjdodaaTotals.lean).
  GIVEN WITH THE SEED: the statements are not yours to turn. If you find one false, say at which input.
  Laid BY PROGRAM, IN A SANDBOX (cutbox-rows.mjs): the forced cells as the released guide's own fill.sh prints them over the translation 1648506e5a466e27… (all of the seat's roots in one cut). By AI agents, Wed Nov 11 2026. No macro, syntax, notation, axiom, sorry.
-/
import Derived.Test.YtbpjkghbkjdodaaChecked
import GoSem.Claim
import GoSem.ClaimJoined
import GoSem.ClaimMapViews
import Derived.JoinedTies
import Derived.KernelRfl
namespace Go.Proofs.Ytbpjkghbkjdodaa
/- THE CELL 'sum', in the pinned program and in every row, IS THE sha256 OF THE DUMP (.gsa) THAT YtbpjkghbkjdodaaProg.lean LOADS. Nothing in Lean hashes anything: it is a label: what it is worth is what the hold of that sum in a sandbox is worth. -/
noncomputable def Try.pinned : Pinned := { name := "ytbpjkghbkjdodaa", sum := "1648506e5a466e27035d01ca69d5fe1efb55965e34e06c5cb57f9b04f95e3605", checked := Try.checked }
namespace Rows
def none {H : Type} : Left H := { results := [], args := [] }

/-- 'laws.FnExactAreBands': WHATEVER THE INPUT: true; the input reads as it did. -/
def fnExactAreBandsSpec : ChangeSpec := { name := "fnExactAreBands", fn := fun _ => fun
  | [d] => { results := [.lit (.bool true)], args := [d] }
  | _ => none }
def fnExactAreBandsRow : OpenClaim := { program := "ytbpjkghbkjdodaa", sum := "1648506e5a466e27035d01ca69d5fe1efb55965e34e06c5cb57f9b04f95e3605", func := "loop.example/g01317/laws.FnExactAreBands", spec := "fnExactAreBands", apart := false }
def FnExactAreBandsSaid : Prop := fnExactAreBandsRow.holds Try.pinned (OpenSpec.ofChange fnExactAreBandsSpec)

/-- ITS FALSE NEIGHBOUR: 'it returns false'. Refute it at one input. -/
def fnExactAreBandsWrong : ChangeSpec := { name := "fnExactAreBands", fn := fun _ => fun
  | [d] => { results := [.lit (.bool false)], args := [d] }
  | _ => none }
def FnExactAreBandsWrongFalsely : Prop := fnExactAreBandsRow.holds Try.pinned (OpenSpec.ofChange fnExactAreBandsWrong)

/-- 'laws.FnExactCutFlat': WHATEVER THE INPUT: true; the input reads as it did. -/
def fnExactCutFlatSpec : ChangeSpec := { name := "fnExactCutFlat", fn := fun _ => fun
  | [d1, d2] => { results := [.lit (.bool true)], args := [d1, d2] }
  | _ => none }
def fnExactCutFlatRow : OpenClaim := { program := "ytbpjkghbkjdodaa", sum := "1648506e5a466e27035d01ca69d5fe1efb55965e34e06c5cb57f9b04f95e3605", func := "loop.example/g01317/laws.FnExactCutFlat", spec := "fnExactCutFlat", apart := false }
def FnExactCutFlatSaid : Prop := fnExactCutFlatRow.holds Try.pinned (OpenSpec.ofChange fnExactCutFlatSpec)

/-- ITS FALSE NEIGHBOUR: 'it returns false'. Refute it at one input. -/
def fnExactCutFlatWrong : ChangeSpec := { name := "fnExactCutFlat", fn := fun _ => fun
  | [d1, d2] => { results := [.lit (.bool false)], args := [d1, d2] }
  | _ => none }
def FnExactCutFlatWrongFalsely : Prop := fnExactCutFlatRow.holds Try.pinned (OpenSpec.ofChange fnExactCutFlatWrong)

/-- 'laws.FnExactValidScheme': WHATEVER THE INPUT: true; the input reads as it did. -/
def fnExactValidSchemeSpec : ChangeSpec := { name := "fnExactValidScheme", fn := fun _ => fun
  | [d] => { results := [.lit (.bool true)], args := [d] }
  | _ => none }
def fnExactValidSchemeRow : OpenClaim := { program := "ytbpjkghbkjdodaa", sum := "1648506e5a466e27035d01ca69d5fe1efb55965e34e06c5cb57f9b04f95e3605", func := "loop.example/g01317/laws.FnExactValidScheme", spec := "fnExactValidScheme", apart := false }
def FnExactValidSchemeSaid : Prop := fnExactValidSchemeRow.holds Try.pinned (OpenSpec.ofChange fnExactValidSchemeSpec)

/-- ITS FALSE NEIGHBOUR: 'it returns false'. Refute it at one input. -/
def fnExactValidSchemeWrong : ChangeSpec := { name := "fnExactValidScheme", fn := fun _ => fun
  | [d] => { results := [.lit (.bool false)], args := [d] }
  | _ => none }
def FnExactValidSchemeWrongFalsely : Prop := fnExactValidSchemeRow.holds Try.pinned (OpenSpec.ofChange fnExactValidSchemeWrong)

/-- 'laws.FnExactSameScheme': WHATEVER THE INPUT: true; the input reads as it did. -/
def fnExactSameSchemeSpec : ChangeSpec := { name := "fnExactSameScheme", fn := fun _ => fun
  | [d1, d2] => { results := [.lit (.bool true)], args := [d1, d2] }
  | _ => none }
def fnExactSameSchemeRow : OpenClaim := { program := "ytbpjkghbkjdodaa", sum := "1648506e5a466e27035d01ca69d5fe1efb55965e34e06c5cb57f9b04f95e3605", func := "loop.example/g01317/laws.FnExactSameScheme", spec := "fnExactSameScheme", inPlace := ["math.Float32bits", "math.Float64bits"], apart := false }
def FnExactSameSchemeSaid : Prop := fnExactSameSchemeRow.holds Try.pinned (OpenSpec.ofChange fnExactSameSchemeSpec)

/-- ITS FALSE NEIGHBOUR: 'it returns false'. Refute it at one input. -/
def fnExactSameSchemeWrong : ChangeSpec := { name := "fnExactSameScheme", fn := fun _ => fun
  | [d1, d2] => { results := [.lit (.bool false)], args := [d1, d2] }
  | _ => none }
def FnExactSameSchemeWrongFalsely : Prop := fnExactSameSchemeRow.holds Try.pinned (OpenSpec.ofChange fnExactSameSchemeWrong)

/-- 'laws.FnExactEnergyOf': WHATEVER THE INPUT: true; the input reads as it did. -/
def fnExactEnergyOfSpec : ChangeSpec := { name := "fnExactEnergyOf", fn := fun _ => fun
  | [d] => { results := [.lit (.bool true)], args := [d] }
  | _ => none }
def fnExactEnergyOfRow : OpenClaim := { program := "ytbpjkghbkjdodaa", sum := "1648506e5a466e27035d01ca69d5fe1efb55965e34e06c5cb57f9b04f95e3605", func := "loop.example/g01317/laws.FnExactEnergyOf", spec := "fnExactEnergyOf", apart := false }
def FnExactEnergyOfSaid : Prop := fnExactEnergyOfRow.holds Try.pinned (OpenSpec.ofChange fnExactEnergyOfSpec)

/-- ITS FALSE NEIGHBOUR: 'it returns false'. Refute it at one input. -/
def fnExactEnergyOfWrong : ChangeSpec := { name := "fnExactEnergyOf", fn := fun _ => fun
  | [d] => { results := [.lit (.bool false)], args := [d] }
  | _ => none }
def FnExactEnergyOfWrongFalsely : Prop := fnExactEnergyOfRow.holds Try.pinned (OpenSpec.ofChange fnExactEnergyOfWrong)

/-- 'laws.FnDots': WHATEVER THE INPUT: true; the input reads as it did. -/
def fnDotsSpec : ChangeSpec := { name := "fnDots", fn := fun _ => fun
  | [d1, d2] => { results := [.lit (.bool true)], args := [d1, d2] }
  | _ => none }
def fnDotsRow : OpenClaim := { program := "ytbpjkghbkjdodaa", sum := "1648506e5a466e27035d01ca69d5fe1efb55965e34e06c5cb57f9b04f95e3605", func := "loop.example/g01317/laws.FnDots", spec := "fnDots", inPlace := ["math.Float32frombits", "math.Float32bits"], unfollowed := true, recurses := true, apart := false }
def FnDotsSaid : Prop := fnDotsRow.holds Try.pinned (OpenSpec.ofChange fnDotsSpec)

/-- ITS FALSE NEIGHBOUR: 'it returns false'. Refute it at one input. -/
def fnDotsWrong : ChangeSpec := { name := "fnDots", fn := fun _ => fun
  | [d1, d2] => { results := [.lit (.bool false)], args := [d1, d2] }
  | _ => none }
def FnDotsWrongFalsely : Prop := fnDotsRow.holds Try.pinned (OpenSpec.ofChange fnDotsWrong)

/- THE SECOND FORM. 'bulk': how many values and letters a reading holds, each counted each time it is reached (what is shared counts as often as it is met; a slice's spare places count too). A statement '..UptoSaid' is the law's where the arguments, and the package variables that the reading takes, are together of bulk at most 1048576: NARROWER than '..Said'. Prove '..Said' where nothing that the law and all that it calls make is longer than what came in: it says more and counts as full. Else prove '..UptoSaid'. A law counts once. -/
mutual
def uptoBulk {H : Type} : DataW H → Nat
  | .lit (.string bytes) => bytes.length + 1
  | .lit _ => 1
  | .nil => 1
  | .ptr d => uptoBulk d + 1
  | .slice elems spare => uptoBulkAll elems + uptoBulkAll spare + 1
  | .agg parts => uptoBulkAll parts + 1
  | .iface _ d => uptoBulk d + 1
  | .map entries => uptoBulkEntries entries + 1
  | .held _ => 1
def uptoBulkAll {H : Type} : List (DataW H) → Nat
  | [] => 0
  | d :: r => uptoBulk d + uptoBulkAll r
def uptoBulkEntries {H : Type} : List (Lit × DataW H) → Nat
  | [] => 0
  | x :: r => uptoBulkEntry x + uptoBulkEntries r
def uptoBulkEntry {H : Type} : Lit × DataW H → Nat
  | (.string bytes, d) => bytes.length + uptoBulk d + 1
  | (_, d) => uptoBulk d + 1
 end
def uptoSmall : (H : Type) → List (DataW H) → Bool := fun _ ds => decide (uptoBulkAll ds ≤ 1048576)
def OpenSpec.upto (s : _root_.Go.ChangeSpec) : _root_.Go.OpenSpec := { _root_.Go.OpenSpec.ofChange s with cond := some uptoSmall }

/-- 'laws.FnExactAreBands', WHERE WHAT IT READS IS OF BULK AT MOST 1048576: true; the input reads as it did. -/
def fnExactAreBandsUptoRow : OpenClaim := { program := "ytbpjkghbkjdodaa", sum := "1648506e5a466e27035d01ca69d5fe1efb55965e34e06c5cb57f9b04f95e3605", func := "loop.example/g01317/laws.FnExactAreBands", spec := "fnExactAreBands", apart := false, narrowed := true }
def FnExactAreBandsUptoSaid : Prop := fnExactAreBandsUptoRow.holds Try.pinned (OpenSpec.upto fnExactAreBandsSpec)

/-- 'laws.FnExactCutFlat', WHERE WHAT IT READS IS OF BULK AT MOST 1048576: true; the input reads as it did. -/
def fnExactCutFlatUptoRow : OpenClaim := { program := "ytbpjkghbkjdodaa", sum := "1648506e5a466e27035d01ca69d5fe1efb55965e34e06c5cb57f9b04f95e3605", func := "loop.example/g01317/laws.FnExactCutFlat", spec := "fnExactCutFlat", apart := false, narrowed := true }
def FnExactCutFlatUptoSaid : Prop := fnExactCutFlatUptoRow.holds Try.pinned (OpenSpec.upto fnExactCutFlatSpec)

/-- 'laws.FnExactValidScheme', WHERE WHAT IT READS IS OF BULK AT MOST 1048576: true; the input reads as it did. -/
def fnExactValidSchemeUptoRow : OpenClaim := { program := "ytbpjkghbkjdodaa", sum := "1648506e5a466e27035d01ca69d5fe1efb55965e34e06c5cb57f9b04f95e3605", func := "loop.example/g01317/laws.FnExactValidScheme", spec := "fnExactValidScheme", apart := false, narrowed := true }
def FnExactValidSchemeUptoSaid : Prop := fnExactValidSchemeUptoRow.holds Try.pinned (OpenSpec.upto fnExactValidSchemeSpec)

/-- 'laws.FnExactSameScheme', WHERE WHAT IT READS IS OF BULK AT MOST 1048576: true; the input reads as it did. -/
def fnExactSameSchemeUptoRow : OpenClaim := { program := "ytbpjkghbkjdodaa", sum := "1648506e5a466e27035d01ca69d5fe1efb55965e34e06c5cb57f9b04f95e3605", func := "loop.example/g01317/laws.FnExactSameScheme", spec := "fnExactSameScheme", inPlace := ["math.Float32bits", "math.Float64bits"], apart := false, narrowed := true }
def FnExactSameSchemeUptoSaid : Prop := fnExactSameSchemeUptoRow.holds Try.pinned (OpenSpec.upto fnExactSameSchemeSpec)

/-- 'laws.FnExactEnergyOf', WHERE WHAT IT READS IS OF BULK AT MOST 1048576: true; the input reads as it did. -/
def fnExactEnergyOfUptoRow : OpenClaim := { program := "ytbpjkghbkjdodaa", sum := "1648506e5a466e27035d01ca69d5fe1efb55965e34e06c5cb57f9b04f95e3605", func := "loop.example/g01317/laws.FnExactEnergyOf", spec := "fnExactEnergyOf", apart := false, narrowed := true }
def FnExactEnergyOfUptoSaid : Prop := fnExactEnergyOfUptoRow.holds Try.pinned (OpenSpec.upto fnExactEnergyOfSpec)

/-- 'laws.FnDots', WHERE WHAT IT READS IS OF BULK AT MOST 1048576: true; the input reads as it did. -/
def fnDotsUptoRow : OpenClaim := { program := "ytbpjkghbkjdodaa", sum := "1648506e5a466e27035d01ca69d5fe1efb55965e34e06c5cb57f9b04f95e3605", func := "loop.example/g01317/laws.FnDots", spec := "fnDots", inPlace := ["math.Float32frombits", "math.Float32bits"], unfollowed := true, recurses := true, apart := false, narrowed := true }
def FnDotsUptoSaid : Prop := fnDotsUptoRow.holds Try.pinned (OpenSpec.upto fnDotsSpec)

end Rows
end Go.Proofs.Ytbpjkghbkjdodaa
