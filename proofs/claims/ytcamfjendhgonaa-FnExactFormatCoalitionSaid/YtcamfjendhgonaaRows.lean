/-
  No cell of these rows narrows 'for every input' (looked for: loops, veiled, ifaces, maps, wideKeys, modest, calm, conditions, laid).
  DERIVED. THE GIVEN ROWS OF THIS SEAT. 11 by the template 'for every input the law returns true; each argument reads behind the call as it read before'; 0 by the template 'total and deterministic' (their statements: YtcamfjendhgonaaTotals.lean).
  GIVEN WITH THE SEED: the statements are not yours to turn. If you find one false, say at which input.
  Laid BY PROGRAM, IN A SANDBOX (cutbox-rows.mjs): the forced cells as the released guide's own fill.sh prints them over the translation dbe81902f261c1d1… (all of the seat's roots in one cut). By AI agents, Wed Nov 11 2026. No macro, syntax, notation, axiom, sorry.
-/
import Derived.Test.YtcamfjendhgonaaChecked
import GoSem.Claim
import GoSem.ClaimJoined
import GoSem.ClaimMapViews
import Derived.JoinedTies
import Derived.KernelRfl
namespace Go.Proofs.Ytcamfjendhgonaa
/- THE CELL 'sum', in the pinned program and in every row, IS THE sha256 OF THE DUMP (.gsa) THAT YtcamfjendhgonaaProg.lean LOADS. Nothing in Lean hashes anything: it is a label: what it is worth is what the hold of that sum in a sandbox is worth. -/
noncomputable def Try.pinned : Pinned := { name := "ytcamfjendhgonaa", sum := "dbe81902f261c1d1f9237392819122bd82032408abaf7e9c9db961b45112d588", checked := Try.checked }
namespace Rows
def none {H : Type} : Left H := { results := [], args := [] }

/-- 'laws.FnExactConstants': WHATEVER THE INPUT: true; the input reads as it did. -/
def fnExactConstantsSpec : ChangeSpec := { name := "fnExactConstants", fn := fun _ => fun
  | [] => { results := [.lit (.bool true)], args := [] }
  | _ => none }
def fnExactConstantsRow : OpenClaim := { program := "ytcamfjendhgonaa", sum := "dbe81902f261c1d1f9237392819122bd82032408abaf7e9c9db961b45112d588", func := "loop.example/g00520/laws.FnExactConstants", spec := "fnExactConstants", apart := false }
def FnExactConstantsSaid : Prop := fnExactConstantsRow.holds Try.pinned (OpenSpec.ofChange fnExactConstantsSpec)

/-- ITS FALSE NEIGHBOUR: 'it returns false'. Refute it at one input. -/
def fnExactConstantsWrong : ChangeSpec := { name := "fnExactConstants", fn := fun _ => fun
  | [] => { results := [.lit (.bool false)], args := [] }
  | _ => none }
def FnExactConstantsWrongFalsely : Prop := fnExactConstantsRow.holds Try.pinned (OpenSpec.ofChange fnExactConstantsWrong)

/-- 'laws.FnExactHasPlayer': WHATEVER THE INPUT: true; the input reads as it did. -/
def fnExactHasPlayerSpec : ChangeSpec := { name := "fnExactHasPlayer", fn := fun _ => fun
  | [d1, d2] => { results := [.lit (.bool true)], args := [d1, d2] }
  | _ => none }
def fnExactHasPlayerRow : OpenClaim := { program := "ytcamfjendhgonaa", sum := "dbe81902f261c1d1f9237392819122bd82032408abaf7e9c9db961b45112d588", func := "loop.example/g00520/laws.FnExactHasPlayer", spec := "fnExactHasPlayer", apart := false }
def FnExactHasPlayerSaid : Prop := fnExactHasPlayerRow.holds Try.pinned (OpenSpec.ofChange fnExactHasPlayerSpec)

/-- ITS FALSE NEIGHBOUR: 'it returns false'. Refute it at one input. -/
def fnExactHasPlayerWrong : ChangeSpec := { name := "fnExactHasPlayer", fn := fun _ => fun
  | [d1, d2] => { results := [.lit (.bool false)], args := [d1, d2] }
  | _ => none }
def FnExactHasPlayerWrongFalsely : Prop := fnExactHasPlayerRow.holds Try.pinned (OpenSpec.ofChange fnExactHasPlayerWrong)

/-- 'laws.FnExactCountCoalitions': WHATEVER THE INPUT: true; the input reads as it did. -/
def fnExactCountCoalitionsSpec : ChangeSpec := { name := "fnExactCountCoalitions", fn := fun _ => fun
  | [d] => { results := [.lit (.bool true)], args := [d] }
  | _ => none }
def fnExactCountCoalitionsRow : OpenClaim := { program := "ytcamfjendhgonaa", sum := "dbe81902f261c1d1f9237392819122bd82032408abaf7e9c9db961b45112d588", func := "loop.example/g00520/laws.FnExactCountCoalitions", spec := "fnExactCountCoalitions", apart := false }
def FnExactCountCoalitionsSaid : Prop := fnExactCountCoalitionsRow.holds Try.pinned (OpenSpec.ofChange fnExactCountCoalitionsSpec)

/-- ITS FALSE NEIGHBOUR: 'it returns false'. Refute it at one input. -/
def fnExactCountCoalitionsWrong : ChangeSpec := { name := "fnExactCountCoalitions", fn := fun _ => fun
  | [d] => { results := [.lit (.bool false)], args := [d] }
  | _ => none }
def FnExactCountCoalitionsWrongFalsely : Prop := fnExactCountCoalitionsRow.holds Try.pinned (OpenSpec.ofChange fnExactCountCoalitionsWrong)

/-- 'laws.FnExactIsSubset': WHATEVER THE INPUT: true; the input reads as it did. -/
def fnExactIsSubsetSpec : ChangeSpec := { name := "fnExactIsSubset", fn := fun _ => fun
  | [d1, d2] => { results := [.lit (.bool true)], args := [d1, d2] }
  | _ => none }
def fnExactIsSubsetRow : OpenClaim := { program := "ytcamfjendhgonaa", sum := "dbe81902f261c1d1f9237392819122bd82032408abaf7e9c9db961b45112d588", func := "loop.example/g00520/laws.FnExactIsSubset", spec := "fnExactIsSubset", apart := false }
def FnExactIsSubsetSaid : Prop := fnExactIsSubsetRow.holds Try.pinned (OpenSpec.ofChange fnExactIsSubsetSpec)

/-- ITS FALSE NEIGHBOUR: 'it returns false'. Refute it at one input. -/
def fnExactIsSubsetWrong : ChangeSpec := { name := "fnExactIsSubset", fn := fun _ => fun
  | [d1, d2] => { results := [.lit (.bool false)], args := [d1, d2] }
  | _ => none }
def FnExactIsSubsetWrongFalsely : Prop := fnExactIsSubsetRow.holds Try.pinned (OpenSpec.ofChange fnExactIsSubsetWrong)

/-- 'laws.FnExactOverlap': WHATEVER THE INPUT: true; the input reads as it did. -/
def fnExactOverlapSpec : ChangeSpec := { name := "fnExactOverlap", fn := fun _ => fun
  | [d1, d2] => { results := [.lit (.bool true)], args := [d1, d2] }
  | _ => none }
def fnExactOverlapRow : OpenClaim := { program := "ytcamfjendhgonaa", sum := "dbe81902f261c1d1f9237392819122bd82032408abaf7e9c9db961b45112d588", func := "loop.example/g00520/laws.FnExactOverlap", spec := "fnExactOverlap", apart := false }
def FnExactOverlapSaid : Prop := fnExactOverlapRow.holds Try.pinned (OpenSpec.ofChange fnExactOverlapSpec)

/-- ITS FALSE NEIGHBOUR: 'it returns false'. Refute it at one input. -/
def fnExactOverlapWrong : ChangeSpec := { name := "fnExactOverlap", fn := fun _ => fun
  | [d1, d2] => { results := [.lit (.bool false)], args := [d1, d2] }
  | _ => none }
def FnExactOverlapWrongFalsely : Prop := fnExactOverlapRow.holds Try.pinned (OpenSpec.ofChange fnExactOverlapWrong)

/-- 'laws.FnExactUnion': WHATEVER THE INPUT: true; the input reads as it did. -/
def fnExactUnionSpec : ChangeSpec := { name := "fnExactUnion", fn := fun _ => fun
  | [d1, d2] => { results := [.lit (.bool true)], args := [d1, d2] }
  | _ => none }
def fnExactUnionRow : OpenClaim := { program := "ytcamfjendhgonaa", sum := "dbe81902f261c1d1f9237392819122bd82032408abaf7e9c9db961b45112d588", func := "loop.example/g00520/laws.FnExactUnion", spec := "fnExactUnion", apart := false }
def FnExactUnionSaid : Prop := fnExactUnionRow.holds Try.pinned (OpenSpec.ofChange fnExactUnionSpec)

/-- ITS FALSE NEIGHBOUR: 'it returns false'. Refute it at one input. -/
def fnExactUnionWrong : ChangeSpec := { name := "fnExactUnion", fn := fun _ => fun
  | [d1, d2] => { results := [.lit (.bool false)], args := [d1, d2] }
  | _ => none }
def FnExactUnionWrongFalsely : Prop := fnExactUnionRow.holds Try.pinned (OpenSpec.ofChange fnExactUnionWrong)

/-- 'laws.FnExactIsValidRat': WHATEVER THE INPUT: true; the input reads as it did. -/
def fnExactIsValidRatSpec : ChangeSpec := { name := "fnExactIsValidRat", fn := fun _ => fun
  | [d] => { results := [.lit (.bool true)], args := [d] }
  | _ => none }
def fnExactIsValidRatRow : OpenClaim := { program := "ytcamfjendhgonaa", sum := "dbe81902f261c1d1f9237392819122bd82032408abaf7e9c9db961b45112d588", func := "loop.example/g00520/laws.FnExactIsValidRat", spec := "fnExactIsValidRat", apart := false }
def FnExactIsValidRatSaid : Prop := fnExactIsValidRatRow.holds Try.pinned (OpenSpec.ofChange fnExactIsValidRatSpec)

/-- ITS FALSE NEIGHBOUR: 'it returns false'. Refute it at one input. -/
def fnExactIsValidRatWrong : ChangeSpec := { name := "fnExactIsValidRat", fn := fun _ => fun
  | [d] => { results := [.lit (.bool false)], args := [d] }
  | _ => none }
def FnExactIsValidRatWrongFalsely : Prop := fnExactIsValidRatRow.holds Try.pinned (OpenSpec.ofChange fnExactIsValidRatWrong)

/-- 'laws.FnExactSizeOf': WHATEVER THE INPUT: true; the input reads as it did. -/
def fnExactSizeOfSpec : ChangeSpec := { name := "fnExactSizeOf", fn := fun _ => fun
  | [d] => { results := [.lit (.bool true)], args := [d] }
  | _ => none }
def fnExactSizeOfRow : OpenClaim := { program := "ytcamfjendhgonaa", sum := "dbe81902f261c1d1f9237392819122bd82032408abaf7e9c9db961b45112d588", func := "loop.example/g00520/laws.FnExactSizeOf", spec := "fnExactSizeOf", apart := false }
def FnExactSizeOfSaid : Prop := fnExactSizeOfRow.holds Try.pinned (OpenSpec.ofChange fnExactSizeOfSpec)

/-- ITS FALSE NEIGHBOUR: 'it returns false'. Refute it at one input. -/
def fnExactSizeOfWrong : ChangeSpec := { name := "fnExactSizeOf", fn := fun _ => fun
  | [d] => { results := [.lit (.bool false)], args := [d] }
  | _ => none }
def FnExactSizeOfWrongFalsely : Prop := fnExactSizeOfRow.holds Try.pinned (OpenSpec.ofChange fnExactSizeOfWrong)

/-- 'laws.FnExactIsInteger': WHATEVER THE INPUT: true; the input reads as it did. -/
def fnExactIsIntegerSpec : ChangeSpec := { name := "fnExactIsInteger", fn := fun _ => fun
  | [d] => { results := [.lit (.bool true)], args := [d] }
  | _ => none }
def fnExactIsIntegerRow : OpenClaim := { program := "ytcamfjendhgonaa", sum := "dbe81902f261c1d1f9237392819122bd82032408abaf7e9c9db961b45112d588", func := "loop.example/g00520/laws.FnExactIsInteger", spec := "fnExactIsInteger", apart := false }
def FnExactIsIntegerSaid : Prop := fnExactIsIntegerRow.holds Try.pinned (OpenSpec.ofChange fnExactIsIntegerSpec)

/-- ITS FALSE NEIGHBOUR: 'it returns false'. Refute it at one input. -/
def fnExactIsIntegerWrong : ChangeSpec := { name := "fnExactIsInteger", fn := fun _ => fun
  | [d] => { results := [.lit (.bool false)], args := [d] }
  | _ => none }
def FnExactIsIntegerWrongFalsely : Prop := fnExactIsIntegerRow.holds Try.pinned (OpenSpec.ofChange fnExactIsIntegerWrong)

/-- 'laws.FnExactFloorRat': WHATEVER THE INPUT: true; the input reads as it did. -/
def fnExactFloorRatSpec : ChangeSpec := { name := "fnExactFloorRat", fn := fun _ => fun
  | [d] => { results := [.lit (.bool true)], args := [d] }
  | _ => none }
def fnExactFloorRatRow : OpenClaim := { program := "ytcamfjendhgonaa", sum := "dbe81902f261c1d1f9237392819122bd82032408abaf7e9c9db961b45112d588", func := "loop.example/g00520/laws.FnExactFloorRat", spec := "fnExactFloorRat", apart := false }
def FnExactFloorRatSaid : Prop := fnExactFloorRatRow.holds Try.pinned (OpenSpec.ofChange fnExactFloorRatSpec)

/-- ITS FALSE NEIGHBOUR: 'it returns false'. Refute it at one input. -/
def fnExactFloorRatWrong : ChangeSpec := { name := "fnExactFloorRat", fn := fun _ => fun
  | [d] => { results := [.lit (.bool false)], args := [d] }
  | _ => none }
def FnExactFloorRatWrongFalsely : Prop := fnExactFloorRatRow.holds Try.pinned (OpenSpec.ofChange fnExactFloorRatWrong)

/-- 'laws.FnExactFormatCoalition': WHATEVER THE INPUT: true; the input reads as it did. -/
def fnExactFormatCoalitionSpec : ChangeSpec := { name := "fnExactFormatCoalition", fn := fun _ => fun
  | [d] => { results := [.lit (.bool true)], args := [d] }
  | _ => none }
def fnExactFormatCoalitionRow : OpenClaim := { program := "ytcamfjendhgonaa", sum := "dbe81902f261c1d1f9237392819122bd82032408abaf7e9c9db961b45112d588", func := "loop.example/g00520/laws.FnExactFormatCoalition", spec := "fnExactFormatCoalition", apart := false }
def FnExactFormatCoalitionSaid : Prop := fnExactFormatCoalitionRow.holds Try.pinned (OpenSpec.ofChange fnExactFormatCoalitionSpec)

/-- ITS FALSE NEIGHBOUR: 'it returns false'. Refute it at one input. -/
def fnExactFormatCoalitionWrong : ChangeSpec := { name := "fnExactFormatCoalition", fn := fun _ => fun
  | [d] => { results := [.lit (.bool false)], args := [d] }
  | _ => none }
def FnExactFormatCoalitionWrongFalsely : Prop := fnExactFormatCoalitionRow.holds Try.pinned (OpenSpec.ofChange fnExactFormatCoalitionWrong)

/- THE SECOND FORM. 'bulk': how many values and letters a reading holds, each counted each time it is reached (what is shared counts as often as it is met; a slice's spare places count too). A statement '..UptoSaid' is the law's where the arguments, and the package variables that the reading takes, are together of bulk at most 1048576: NARROWER than '..Said'. Prove '..Said' where nothing that the law and all that it calls make is longer than what came in: it says more and counts as full. Else prove '..UptoSaid'. A law counts once. -/
mutual
def uptoBulk {H : Type} : DataW H → Nat
  | .lit (.string bytes) => bytes.length + 1
  | .lit _ => 1
  | .nil => 1
  | .ptr d => uptoBulk d + 1
  | .slice elems spare => uptoBulkAll elems + uptoBulkAll spare + 1
  | .agg parts => uptoBulkAll parts + 1
  | .iface _ d => uptoBulk d + 1
  | .map entries => uptoBulkEntries entries + 1
  | .held _ => 1
def uptoBulkAll {H : Type} : List (DataW H) → Nat
  | [] => 0
  | d :: r => uptoBulk d + uptoBulkAll r
def uptoBulkEntries {H : Type} : List (Lit × DataW H) → Nat
  | [] => 0
  | x :: r => uptoBulkEntry x + uptoBulkEntries r
def uptoBulkEntry {H : Type} : Lit × DataW H → Nat
  | (.string bytes, d) => bytes.length + uptoBulk d + 1
  | (_, d) => uptoBulk d + 1
 end
def uptoSmall : (H : Type) → List (DataW H) → Bool := fun _ ds => decide (uptoBulkAll ds ≤ 1048576)
def OpenSpec.upto (s : _root_.Go.ChangeSpec) : _root_.Go.OpenSpec := { _root_.Go.OpenSpec.ofChange s with cond := some uptoSmall }

/-- 'laws.FnExactConstants', WHERE WHAT IT READS IS OF BULK AT MOST 1048576: true; the input reads as it did. -/
def fnExactConstantsUptoRow : OpenClaim := { program := "ytcamfjendhgonaa", sum := "dbe81902f261c1d1f9237392819122bd82032408abaf7e9c9db961b45112d588", func := "loop.example/g00520/laws.FnExactConstants", spec := "fnExactConstants", apart := false, narrowed := true }
def FnExactConstantsUptoSaid : Prop := fnExactConstantsUptoRow.holds Try.pinned (OpenSpec.upto fnExactConstantsSpec)

/-- 'laws.FnExactHasPlayer', WHERE WHAT IT READS IS OF BULK AT MOST 1048576: true; the input reads as it did. -/
def fnExactHasPlayerUptoRow : OpenClaim := { program := "ytcamfjendhgonaa", sum := "dbe81902f261c1d1f9237392819122bd82032408abaf7e9c9db961b45112d588", func := "loop.example/g00520/laws.FnExactHasPlayer", spec := "fnExactHasPlayer", apart := false, narrowed := true }
def FnExactHasPlayerUptoSaid : Prop := fnExactHasPlayerUptoRow.holds Try.pinned (OpenSpec.upto fnExactHasPlayerSpec)

/-- 'laws.FnExactCountCoalitions', WHERE WHAT IT READS IS OF BULK AT MOST 1048576: true; the input reads as it did. -/
def fnExactCountCoalitionsUptoRow : OpenClaim := { program := "ytcamfjendhgonaa", sum := "dbe81902f261c1d1f9237392819122bd82032408abaf7e9c9db961b45112d588", func := "loop.example/g00520/laws.FnExactCountCoalitions", spec := "fnExactCountCoalitions", apart := false, narrowed := true }
def FnExactCountCoalitionsUptoSaid : Prop := fnExactCountCoalitionsUptoRow.holds Try.pinned (OpenSpec.upto fnExactCountCoalitionsSpec)

/-- 'laws.FnExactIsSubset', WHERE WHAT IT READS IS OF BULK AT MOST 1048576: true; the input reads as it did. -/
def fnExactIsSubsetUptoRow : OpenClaim := { program := "ytcamfjendhgonaa", sum := "dbe81902f261c1d1f9237392819122bd82032408abaf7e9c9db961b45112d588", func := "loop.example/g00520/laws.FnExactIsSubset", spec := "fnExactIsSubset", apart := false, narrowed := true }
def FnExactIsSubsetUptoSaid : Prop := fnExactIsSubsetUptoRow.holds Try.pinned (OpenSpec.upto fnExactIsSubsetSpec)

/-- 'laws.FnExactOverlap', WHERE WHAT IT READS IS OF BULK AT MOST 1048576: true; the input reads as it did. -/
def fnExactOverlapUptoRow : OpenClaim := { program := "ytcamfjendhgonaa", sum := "dbe81902f261c1d1f9237392819122bd82032408abaf7e9c9db961b45112d588", func := "loop.example/g00520/laws.FnExactOverlap", spec := "fnExactOverlap", apart := false, narrowed := true }
def FnExactOverlapUptoSaid : Prop := fnExactOverlapUptoRow.holds Try.pinned (OpenSpec.upto fnExactOverlapSpec)

/-- 'laws.FnExactUnion', WHERE WHAT IT READS IS OF BULK AT MOST 1048576: true; the input reads as it did. -/
def fnExactUnionUptoRow : OpenClaim := { program := "ytcamfjendhgonaa", sum := "dbe81902f261c1d1f9237392819122bd82032408abaf7e9c9db961b45112d588", func := "loop.example/g00520/laws.FnExactUnion", spec := "fnExactUnion", apart := false, narrowed := true }
def FnExactUnionUptoSaid : Prop := fnExactUnionUptoRow.holds Try.pinned (OpenSpec.upto fnExactUnionSpec)

/-- 'laws.FnExactIsValidRat', WHERE WHAT IT READS IS OF BULK AT MOST 1048576: true; the input reads as it did. -/
def fnExactIsValidRatUptoRow : OpenClaim := { program := "ytcamfjendhgonaa", sum := "dbe81902f261c1d1f9237392819122bd82032408abaf7e9c9db961b45112d588", func := "loop.example/g00520/laws.FnExactIsValidRat", spec := "fnExactIsValidRat", apart := false, narrowed := true }
def FnExactIsValidRatUptoSaid : Prop := fnExactIsValidRatUptoRow.holds Try.pinned (OpenSpec.upto fnExactIsValidRatSpec)

/-- 'laws.FnExactSizeOf', WHERE WHAT IT READS IS OF BULK AT MOST 1048576: true; the input reads as it did. -/
def fnExactSizeOfUptoRow : OpenClaim := { program := "ytcamfjendhgonaa", sum := "dbe81902f261c1d1f9237392819122bd82032408abaf7e9c9db961b45112d588", func := "loop.example/g00520/laws.FnExactSizeOf", spec := "fnExactSizeOf", apart := false, narrowed := true }
def FnExactSizeOfUptoSaid : Prop := fnExactSizeOfUptoRow.holds Try.pinned (OpenSpec.upto fnExactSizeOfSpec)

/-- 'laws.FnExactIsInteger', WHERE WHAT IT READS IS OF BULK AT MOST 1048576: true; the input reads as it did. -/
def fnExactIsIntegerUptoRow : OpenClaim := { program := "ytcamfjendhgonaa", sum := "dbe81902f261c1d1f9237392819122bd82032408abaf7e9c9db961b45112d588", func := "loop.example/g00520/laws.FnExactIsInteger", spec := "fnExactIsInteger", apart := false, narrowed := true }
def FnExactIsIntegerUptoSaid : Prop := fnExactIsIntegerUptoRow.holds Try.pinned (OpenSpec.upto fnExactIsIntegerSpec)

/-- 'laws.FnExactFloorRat', WHERE WHAT IT READS IS OF BULK AT MOST 1048576: true; the input reads as it did. -/
def fnExactFloorRatUptoRow : OpenClaim := { program := "ytcamfjendhgonaa", sum := "dbe81902f261c1d1f9237392819122bd82032408abaf7e9c9db961b45112d588", func := "loop.example/g00520/laws.FnExactFloorRat", spec := "fnExactFloorRat", apart := false, narrowed := true }
def FnExactFloorRatUptoSaid : Prop := fnExactFloorRatUptoRow.holds Try.pinned (OpenSpec.upto fnExactFloorRatSpec)

/-- 'laws.FnExactFormatCoalition', WHERE WHAT IT READS IS OF BULK AT MOST 1048576: true; the input reads as it did. -/
def fnExactFormatCoalitionUptoRow : OpenClaim := { program := "ytcamfjendhgonaa", sum := "dbe81902f261c1d1f9237392819122bd82032408abaf7e9c9db961b45112d588", func := "loop.example/g00520/laws.FnExactFormatCoalition", spec := "fnExactFormatCoalition", apart := false, narrowed := true }
def FnExactFormatCoalitionUptoSaid : Prop := fnExactFormatCoalitionUptoRow.holds Try.pinned (OpenSpec.upto fnExactFormatCoalitionSpec)

end Rows
end Go.Proofs.Ytcamfjendhgonaa
