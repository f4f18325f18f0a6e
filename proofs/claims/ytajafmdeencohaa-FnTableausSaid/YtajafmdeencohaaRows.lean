/-
  No cell of these rows narrows 'for every input' (looked for: loops, veiled, ifaces, maps, wideKeys, modest, calm, conditions, laid).
  DERIVED. THE GIVEN ROWS OF THIS SEAT. 7 by the template 'for every input the law returns true; each argument reads behind the call as it read before'; 0 by the template 'total and deterministic' (their statements: YtajafmdeencohaaTotals.lean).
  GIVEN WITH THE SEED: the statements are not yours to turn. If you find one false, say at which input.
  Laid BY PROGRAM, IN A SANDBOX (cutbox-rows.mjs): the forced cells as the released guide's own fill.sh prints them over the translation 09a7fb3575d73b72… (all of the seat's roots in one cut). By AI agents, Wed Nov 11 2026. No macro, syntax, notation, axiom, sorry.
-/
import Derived.Test.YtajafmdeencohaaChecked
import GoSem.Claim
import GoSem.ClaimJoined
import GoSem.ClaimMapViews
import Derived.JoinedTies
import Derived.KernelRfl
namespace Go.Proofs.Ytajafmdeencohaa
/- THE CELL 'sum', in the pinned program and in every row, IS THE sha256 OF THE DUMP (.gsa) THAT YtajafmdeencohaaProg.lean LOADS. Nothing in Lean hashes anything: it is a label: what it is worth is what the hold of that sum in a sandbox is worth. -/
noncomputable def Try.pinned : Pinned := { name := "ytajafmdeencohaa", sum := "09a7fb3575d73b7278996bee7870b389ed409e78492155961070a503162fc304", checked := Try.checked }
namespace Rows
def none {H : Type} : Left H := { results := [], args := [] }

/-- 'laws.FnExactEqualTableau': WHATEVER THE INPUT: true; the input reads as it did. -/
def fnExactEqualTableauSpec : ChangeSpec := { name := "fnExactEqualTableau", fn := fun _ => fun
  | [d1, d2] => { results := [.lit (.bool true)], args := [d1, d2] }
  | _ => none }
def fnExactEqualTableauRow : OpenClaim := { program := "ytajafmdeencohaa", sum := "09a7fb3575d73b7278996bee7870b389ed409e78492155961070a503162fc304", func := "loop.example/g00520/laws.FnExactEqualTableau", spec := "fnExactEqualTableau", unfollowed := true, recurses := true, apart := false }
def FnExactEqualTableauSaid : Prop := fnExactEqualTableauRow.holds Try.pinned (OpenSpec.ofChange fnExactEqualTableauSpec)

/-- ITS FALSE NEIGHBOUR: 'it returns false'. Refute it at one input. -/
def fnExactEqualTableauWrong : ChangeSpec := { name := "fnExactEqualTableau", fn := fun _ => fun
  | [d1, d2] => { results := [.lit (.bool false)], args := [d1, d2] }
  | _ => none }
def FnExactEqualTableauWrongFalsely : Prop := fnExactEqualTableauRow.holds Try.pinned (OpenSpec.ofChange fnExactEqualTableauWrong)

/-- 'laws.FnExactEnteringColumn': WHATEVER THE INPUT: true; the input reads as it did. -/
def fnExactEnteringColumnSpec : ChangeSpec := { name := "fnExactEnteringColumn", fn := fun _ => fun
  | [d1, d2, d3] => { results := [.lit (.bool true)], args := [d1, d2, d3] }
  | _ => none }
def fnExactEnteringColumnRow : OpenClaim := { program := "ytajafmdeencohaa", sum := "09a7fb3575d73b7278996bee7870b389ed409e78492155961070a503162fc304", func := "loop.example/g00520/laws.FnExactEnteringColumn", spec := "fnExactEnteringColumn", apart := false }
def FnExactEnteringColumnSaid : Prop := fnExactEnteringColumnRow.holds Try.pinned (OpenSpec.ofChange fnExactEnteringColumnSpec)

/-- ITS FALSE NEIGHBOUR: 'it returns false'. Refute it at one input. -/
def fnExactEnteringColumnWrong : ChangeSpec := { name := "fnExactEnteringColumn", fn := fun _ => fun
  | [d1, d2, d3] => { results := [.lit (.bool false)], args := [d1, d2, d3] }
  | _ => none }
def FnExactEnteringColumnWrongFalsely : Prop := fnExactEnteringColumnRow.holds Try.pinned (OpenSpec.ofChange fnExactEnteringColumnWrong)

/-- 'laws.FnExactSolutionOf': WHATEVER THE INPUT: true; the input reads as it did. -/
def fnExactSolutionOfSpec : ChangeSpec := { name := "fnExactSolutionOf", fn := fun _ => fun
  | [d] => { results := [.lit (.bool true)], args := [d] }
  | _ => none }
def fnExactSolutionOfRow : OpenClaim := { program := "ytajafmdeencohaa", sum := "09a7fb3575d73b7278996bee7870b389ed409e78492155961070a503162fc304", func := "loop.example/g00520/laws.FnExactSolutionOf", spec := "fnExactSolutionOf", unfollowed := true, recurses := true, apart := false }
def FnExactSolutionOfSaid : Prop := fnExactSolutionOfRow.holds Try.pinned (OpenSpec.ofChange fnExactSolutionOfSpec)

/-- ITS FALSE NEIGHBOUR: 'it returns false'. Refute it at one input. -/
def fnExactSolutionOfWrong : ChangeSpec := { name := "fnExactSolutionOf", fn := fun _ => fun
  | [d] => { results := [.lit (.bool false)], args := [d] }
  | _ => none }
def FnExactSolutionOfWrongFalsely : Prop := fnExactSolutionOfRow.holds Try.pinned (OpenSpec.ofChange fnExactSolutionOfWrong)

/-- 'laws.FnExactCostRow': WHATEVER THE INPUT: true; the input reads as it did. -/
def fnExactCostRowSpec : ChangeSpec := { name := "fnExactCostRow", fn := fun _ => fun
  | [d1, d2] => { results := [.lit (.bool true)], args := [d1, d2] }
  | _ => none }
def fnExactCostRowRow : OpenClaim := { program := "ytajafmdeencohaa", sum := "09a7fb3575d73b7278996bee7870b389ed409e78492155961070a503162fc304", func := "loop.example/g00520/laws.FnExactCostRow", spec := "fnExactCostRow", unfollowed := true, recurses := true, apart := false }
def FnExactCostRowSaid : Prop := fnExactCostRowRow.holds Try.pinned (OpenSpec.ofChange fnExactCostRowSpec)

/-- ITS FALSE NEIGHBOUR: 'it returns false'. Refute it at one input. -/
def fnExactCostRowWrong : ChangeSpec := { name := "fnExactCostRow", fn := fun _ => fun
  | [d1, d2] => { results := [.lit (.bool false)], args := [d1, d2] }
  | _ => none }
def FnExactCostRowWrongFalsely : Prop := fnExactCostRowRow.holds Try.pinned (OpenSpec.ofChange fnExactCostRowWrong)

/-- 'laws.FnExactStartTableau': WHATEVER THE INPUT: true; the input reads as it did. -/
def fnExactStartTableauSpec : ChangeSpec := { name := "fnExactStartTableau", fn := fun _ => fun
  | [d] => { results := [.lit (.bool true)], args := [d] }
  | _ => none }
def fnExactStartTableauRow : OpenClaim := { program := "ytajafmdeencohaa", sum := "09a7fb3575d73b7278996bee7870b389ed409e78492155961070a503162fc304", func := "loop.example/g00520/laws.FnExactStartTableau", spec := "fnExactStartTableau", unfollowed := true, recurses := true, apart := false }
def FnExactStartTableauSaid : Prop := fnExactStartTableauRow.holds Try.pinned (OpenSpec.ofChange fnExactStartTableauSpec)

/-- ITS FALSE NEIGHBOUR: 'it returns false'. Refute it at one input. -/
def fnExactStartTableauWrong : ChangeSpec := { name := "fnExactStartTableau", fn := fun _ => fun
  | [d] => { results := [.lit (.bool false)], args := [d] }
  | _ => none }
def FnExactStartTableauWrongFalsely : Prop := fnExactStartTableauRow.holds Try.pinned (OpenSpec.ofChange fnExactStartTableauWrong)

/-- 'laws.FnExactPivotTableau': WHATEVER THE INPUT: true; the input reads as it did. -/
def fnExactPivotTableauSpec : ChangeSpec := { name := "fnExactPivotTableau", fn := fun _ => fun
  | [d1, d2, d3] => { results := [.lit (.bool true)], args := [d1, d2, d3] }
  | _ => none }
def fnExactPivotTableauRow : OpenClaim := { program := "ytajafmdeencohaa", sum := "09a7fb3575d73b7278996bee7870b389ed409e78492155961070a503162fc304", func := "loop.example/g00520/laws.FnExactPivotTableau", spec := "fnExactPivotTableau", unfollowed := true, recurses := true, apart := false }
def FnExactPivotTableauSaid : Prop := fnExactPivotTableauRow.holds Try.pinned (OpenSpec.ofChange fnExactPivotTableauSpec)

/-- ITS FALSE NEIGHBOUR: 'it returns false'. Refute it at one input. -/
def fnExactPivotTableauWrong : ChangeSpec := { name := "fnExactPivotTableau", fn := fun _ => fun
  | [d1, d2, d3] => { results := [.lit (.bool false)], args := [d1, d2, d3] }
  | _ => none }
def FnExactPivotTableauWrongFalsely : Prop := fnExactPivotTableauRow.holds Try.pinned (OpenSpec.ofChange fnExactPivotTableauWrong)

/-- 'laws.FnTableaus': WHATEVER THE INPUT: true; the input reads as it did. -/
def fnTableausSpec : ChangeSpec := { name := "fnTableaus", fn := fun _ => fun
  | [d] => { results := [.lit (.bool true)], args := [d] }
  | _ => none }
def fnTableausRow : OpenClaim := { program := "ytajafmdeencohaa", sum := "09a7fb3575d73b7278996bee7870b389ed409e78492155961070a503162fc304", func := "loop.example/g00520/laws.FnTableaus", spec := "fnTableaus", unfollowed := true, recurses := true, apart := false }
def FnTableausSaid : Prop := fnTableausRow.holds Try.pinned (OpenSpec.ofChange fnTableausSpec)

/-- ITS FALSE NEIGHBOUR: 'it returns false'. Refute it at one input. -/
def fnTableausWrong : ChangeSpec := { name := "fnTableaus", fn := fun _ => fun
  | [d] => { results := [.lit (.bool false)], args := [d] }
  | _ => none }
def FnTableausWrongFalsely : Prop := fnTableausRow.holds Try.pinned (OpenSpec.ofChange fnTableausWrong)

/- THE SECOND FORM. 'bulk': how many values and letters a reading holds, each counted each time it is reached (what is shared counts as often as it is met; a slice's spare places count too). A statement '..UptoSaid' is the law's where the arguments, and the package variables that the reading takes, are together of bulk at most 1048576: NARROWER than '..Said'. Prove '..Said' where nothing that the law and all that it calls make is longer than what came in: it says more and counts as full. Else prove '..UptoSaid'. A law counts once. -/
mutual
def uptoBulk {H : Type} : DataW H → Nat
  | .lit (.string bytes) => bytes.length + 1
  | .lit _ => 1
  | .nil => 1
  | .ptr d => uptoBulk d + 1
  | .slice elems spare => uptoBulkAll elems + uptoBulkAll spare + 1
  | .agg parts => uptoBulkAll parts + 1
  | .iface _ d => uptoBulk d + 1
  | .map entries => uptoBulkEntries entries + 1
  | .held _ => 1
def uptoBulkAll {H : Type} : List (DataW H) → Nat
  | [] => 0
  | d :: r => uptoBulk d + uptoBulkAll r
def uptoBulkEntries {H : Type} : List (Lit × DataW H) → Nat
  | [] => 0
  | x :: r => uptoBulkEntry x + uptoBulkEntries r
def uptoBulkEntry {H : Type} : Lit × DataW H → Nat
  | (.string bytes, d) => bytes.length + uptoBulk d + 1
  | (_, d) => uptoBulk d + 1
 end
def uptoSmall : (H : Type) → List (DataW H) → Bool := fun _ ds => decide (uptoBulkAll ds ≤ 1048576)
def OpenSpec.upto (s : _root_.Go.ChangeSpec) : _root_.Go.OpenSpec := { _root_.Go.OpenSpec.ofChange s with cond := some uptoSmall }

/-- 'laws.FnExactEqualTableau', WHERE WHAT IT READS IS OF BULK AT MOST 1048576: true; the input reads as it did. -/
def fnExactEqualTableauUptoRow : OpenClaim := { program := "ytajafmdeencohaa", sum := "09a7fb3575d73b7278996bee7870b389ed409e78492155961070a503162fc304", func := "loop.example/g00520/laws.FnExactEqualTableau", spec := "fnExactEqualTableau", unfollowed := true, recurses := true, apart := false, narrowed := true }
def FnExactEqualTableauUptoSaid : Prop := fnExactEqualTableauUptoRow.holds Try.pinned (OpenSpec.upto fnExactEqualTableauSpec)

/-- 'laws.FnExactEnteringColumn', WHERE WHAT IT READS IS OF BULK AT MOST 1048576: true; the input reads as it did. -/
def fnExactEnteringColumnUptoRow : OpenClaim := { program := "ytajafmdeencohaa", sum := "09a7fb3575d73b7278996bee7870b389ed409e78492155961070a503162fc304", func := "loop.example/g00520/laws.FnExactEnteringColumn", spec := "fnExactEnteringColumn", apart := false, narrowed := true }
def FnExactEnteringColumnUptoSaid : Prop := fnExactEnteringColumnUptoRow.holds Try.pinned (OpenSpec.upto fnExactEnteringColumnSpec)

/-- 'laws.FnExactSolutionOf', WHERE WHAT IT READS IS OF BULK AT MOST 1048576: true; the input reads as it did. -/
def fnExactSolutionOfUptoRow : OpenClaim := { program := "ytajafmdeencohaa", sum := "09a7fb3575d73b7278996bee7870b389ed409e78492155961070a503162fc304", func := "loop.example/g00520/laws.FnExactSolutionOf", spec := "fnExactSolutionOf", unfollowed := true, recurses := true, apart := false, narrowed := true }
def FnExactSolutionOfUptoSaid : Prop := fnExactSolutionOfUptoRow.holds Try.pinned (OpenSpec.upto fnExactSolutionOfSpec)

/-- 'laws.FnExactCostRow', WHERE WHAT IT READS IS OF BULK AT MOST 1048576: true; the input reads as it did. -/
def fnExactCostRowUptoRow : OpenClaim := { program := "ytajafmdeencohaa", sum := "09a7fb3575d73b7278996bee7870b389ed409e78492155961070a503162fc304", func := "loop.example/g00520/laws.FnExactCostRow", spec := "fnExactCostRow", unfollowed := true, recurses := true, apart := false, narrowed := true }
def FnExactCostRowUptoSaid : Prop := fnExactCostRowUptoRow.holds Try.pinned (OpenSpec.upto fnExactCostRowSpec)

/-- 'laws.FnExactStartTableau', WHERE WHAT IT READS IS OF BULK AT MOST 1048576: true; the input reads as it did. -/
def fnExactStartTableauUptoRow : OpenClaim := { program := "ytajafmdeencohaa", sum := "09a7fb3575d73b7278996bee7870b389ed409e78492155961070a503162fc304", func := "loop.example/g00520/laws.FnExactStartTableau", spec := "fnExactStartTableau", unfollowed := true, recurses := true, apart := false, narrowed := true }
def FnExactStartTableauUptoSaid : Prop := fnExactStartTableauUptoRow.holds Try.pinned (OpenSpec.upto fnExactStartTableauSpec)

/-- 'laws.FnExactPivotTableau', WHERE WHAT IT READS IS OF BULK AT MOST 1048576: true; the input reads as it did. -/
def fnExactPivotTableauUptoRow : OpenClaim := { program := "ytajafmdeencohaa", sum := "09a7fb3575d73b7278996bee7870b389ed409e78492155961070a503162fc304", func := "loop.example/g00520/laws.FnExactPivotTableau", spec := "fnExactPivotTableau", unfollowed := true, recurses := true, apart := false, narrowed := true }
def FnExactPivotTableauUptoSaid : Prop := fnExactPivotTableauUptoRow.holds Try.pinned (OpenSpec.upto fnExactPivotTableauSpec)

/-- 'laws.FnTableaus', WHERE WHAT IT READS IS OF BULK AT MOST 1048576: true; the input reads as it did. -/
def fnTableausUptoRow : OpenClaim := { program := "ytajafmdeencohaa", sum := "09a7fb3575d73b7278996bee7870b389ed409e78492155961070a503162fc304", func := "loop.example/g00520/laws.FnTableaus", spec := "fnTableaus", unfollowed := true, recurses := true, apart := false, narrowed := true }
def FnTableausUptoSaid : Prop := fnTableausUptoRow.holds Try.pinned (OpenSpec.upto fnTableausSpec)

end Rows
end Go.Proofs.Ytajafmdeencohaa
