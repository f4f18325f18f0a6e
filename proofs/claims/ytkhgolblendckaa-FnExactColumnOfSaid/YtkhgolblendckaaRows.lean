/-
  No cell of these rows narrows 'for every input' (looked for: loops, veiled, ifaces, maps, wideKeys, modest, calm, conditions, laid).
  DERIVED. THE GIVEN ROWS OF THIS SEAT. 9 by the template 'for every input the law returns true; each argument reads behind the call as it read before'; 0 by the template 'total and deterministic' (their statements: YtkhgolblendckaaTotals.lean).
  GIVEN WITH THE SEED: the statements are not yours to turn. If you find one false, say at which input.
  Laid BY PROGRAM, IN A SANDBOX (cutbox-rows.mjs): the forced cells as the released guide's own fill.sh prints them over the translation a5a1261b40019447… (all of the seat's roots in one cut). By AI agents, Wed Nov 11 2026. No macro, syntax, notation, axiom, sorry.
-/
import Derived.Test.YtkhgolblendckaaChecked
import GoSem.Claim
import GoSem.ClaimJoined
import GoSem.ClaimMapViews
import Derived.JoinedTies
import Derived.KernelRfl
namespace Go.Proofs.Ytkhgolblendckaa
/- THE CELL 'sum', in the pinned program and in every row, IS THE sha256 OF THE DUMP (.gsa) THAT YtkhgolblendckaaProg.lean LOADS. Nothing in Lean hashes anything: it is a label: what it is worth is what the hold of that sum in a sandbox is worth. -/
noncomputable def Try.pinned : Pinned := { name := "ytkhgolblendckaa", sum := "a5a1261b4001944792e82caf55104b57cae58b85943c313481598c80dd78042a", checked := Try.checked }
namespace Rows
def none {H : Type} : Left H := { results := [], args := [] }

/-- 'laws.FnExactEqualVector': WHATEVER THE INPUT: true; the input reads as it did. -/
def fnExactEqualVectorSpec : ChangeSpec := { name := "fnExactEqualVector", fn := fun _ => fun
  | [d1, d2] => { results := [.lit (.bool true)], args := [d1, d2] }
  | _ => none }
def fnExactEqualVectorRow : OpenClaim := { program := "ytkhgolblendckaa", sum := "a5a1261b4001944792e82caf55104b57cae58b85943c313481598c80dd78042a", func := "loop.example/g00520/laws.FnExactEqualVector", spec := "fnExactEqualVector", apart := false }
def FnExactEqualVectorSaid : Prop := fnExactEqualVectorRow.holds Try.pinned (OpenSpec.ofChange fnExactEqualVectorSpec)

/-- ITS FALSE NEIGHBOUR: 'it returns false'. Refute it at one input. -/
def fnExactEqualVectorWrong : ChangeSpec := { name := "fnExactEqualVector", fn := fun _ => fun
  | [d1, d2] => { results := [.lit (.bool false)], args := [d1, d2] }
  | _ => none }
def FnExactEqualVectorWrongFalsely : Prop := fnExactEqualVectorRow.holds Try.pinned (OpenSpec.ofChange fnExactEqualVectorWrong)

/-- 'laws.FnExactAllValid': WHATEVER THE INPUT: true; the input reads as it did. -/
def fnExactAllValidSpec : ChangeSpec := { name := "fnExactAllValid", fn := fun _ => fun
  | [d] => { results := [.lit (.bool true)], args := [d] }
  | _ => none }
def fnExactAllValidRow : OpenClaim := { program := "ytkhgolblendckaa", sum := "a5a1261b4001944792e82caf55104b57cae58b85943c313481598c80dd78042a", func := "loop.example/g00520/laws.FnExactAllValid", spec := "fnExactAllValid", unfollowed := true, recurses := true, apart := false }
def FnExactAllValidSaid : Prop := fnExactAllValidRow.holds Try.pinned (OpenSpec.ofChange fnExactAllValidSpec)

/-- ITS FALSE NEIGHBOUR: 'it returns false'. Refute it at one input. -/
def fnExactAllValidWrong : ChangeSpec := { name := "fnExactAllValid", fn := fun _ => fun
  | [d] => { results := [.lit (.bool false)], args := [d] }
  | _ => none }
def FnExactAllValidWrongFalsely : Prop := fnExactAllValidRow.holds Try.pinned (OpenSpec.ofChange fnExactAllValidWrong)

/-- 'laws.FnExactIntsToRats': WHATEVER THE INPUT: true; the input reads as it did. -/
def fnExactIntsToRatsSpec : ChangeSpec := { name := "fnExactIntsToRats", fn := fun _ => fun
  | [d] => { results := [.lit (.bool true)], args := [d] }
  | _ => none }
def fnExactIntsToRatsRow : OpenClaim := { program := "ytkhgolblendckaa", sum := "a5a1261b4001944792e82caf55104b57cae58b85943c313481598c80dd78042a", func := "loop.example/g00520/laws.FnExactIntsToRats", spec := "fnExactIntsToRats", apart := false }
def FnExactIntsToRatsSaid : Prop := fnExactIntsToRatsRow.holds Try.pinned (OpenSpec.ofChange fnExactIntsToRatsSpec)

/-- ITS FALSE NEIGHBOUR: 'it returns false'. Refute it at one input. -/
def fnExactIntsToRatsWrong : ChangeSpec := { name := "fnExactIntsToRats", fn := fun _ => fun
  | [d] => { results := [.lit (.bool false)], args := [d] }
  | _ => none }
def FnExactIntsToRatsWrongFalsely : Prop := fnExactIntsToRatsRow.holds Try.pinned (OpenSpec.ofChange fnExactIntsToRatsWrong)

/-- 'laws.FnExactEqualResult': WHATEVER THE INPUT: true; the input reads as it did. -/
def fnExactEqualResultSpec : ChangeSpec := { name := "fnExactEqualResult", fn := fun _ => fun
  | [d1, d2] => { results := [.lit (.bool true)], args := [d1, d2] }
  | _ => none }
def fnExactEqualResultRow : OpenClaim := { program := "ytkhgolblendckaa", sum := "a5a1261b4001944792e82caf55104b57cae58b85943c313481598c80dd78042a", func := "loop.example/g00520/laws.FnExactEqualResult", spec := "fnExactEqualResult", apart := false }
def FnExactEqualResultSaid : Prop := fnExactEqualResultRow.holds Try.pinned (OpenSpec.ofChange fnExactEqualResultSpec)

/-- ITS FALSE NEIGHBOUR: 'it returns false'. Refute it at one input. -/
def fnExactEqualResultWrong : ChangeSpec := { name := "fnExactEqualResult", fn := fun _ => fun
  | [d1, d2] => { results := [.lit (.bool false)], args := [d1, d2] }
  | _ => none }
def FnExactEqualResultWrongFalsely : Prop := fnExactEqualResultRow.holds Try.pinned (OpenSpec.ofChange fnExactEqualResultWrong)

/-- 'laws.FnExactDotRat': WHATEVER THE INPUT: true; the input reads as it did. -/
def fnExactDotRatSpec : ChangeSpec := { name := "fnExactDotRat", fn := fun _ => fun
  | [d1, d2] => { results := [.lit (.bool true)], args := [d1, d2] }
  | _ => none }
def fnExactDotRatRow : OpenClaim := { program := "ytkhgolblendckaa", sum := "a5a1261b4001944792e82caf55104b57cae58b85943c313481598c80dd78042a", func := "loop.example/g00520/laws.FnExactDotRat", spec := "fnExactDotRat", apart := false }
def FnExactDotRatSaid : Prop := fnExactDotRatRow.holds Try.pinned (OpenSpec.ofChange fnExactDotRatSpec)

/-- ITS FALSE NEIGHBOUR: 'it returns false'. Refute it at one input. -/
def fnExactDotRatWrong : ChangeSpec := { name := "fnExactDotRat", fn := fun _ => fun
  | [d1, d2] => { results := [.lit (.bool false)], args := [d1, d2] }
  | _ => none }
def FnExactDotRatWrongFalsely : Prop := fnExactDotRatRow.holds Try.pinned (OpenSpec.ofChange fnExactDotRatWrong)

/-- 'laws.FnExactAddScaled': WHATEVER THE INPUT: true; the input reads as it did. -/
def fnExactAddScaledSpec : ChangeSpec := { name := "fnExactAddScaled", fn := fun _ => fun
  | [d1, d2, d3] => { results := [.lit (.bool true)], args := [d1, d2, d3] }
  | _ => none }
def fnExactAddScaledRow : OpenClaim := { program := "ytkhgolblendckaa", sum := "a5a1261b4001944792e82caf55104b57cae58b85943c313481598c80dd78042a", func := "loop.example/g00520/laws.FnExactAddScaled", spec := "fnExactAddScaled", apart := false }
def FnExactAddScaledSaid : Prop := fnExactAddScaledRow.holds Try.pinned (OpenSpec.ofChange fnExactAddScaledSpec)

/-- ITS FALSE NEIGHBOUR: 'it returns false'. Refute it at one input. -/
def fnExactAddScaledWrong : ChangeSpec := { name := "fnExactAddScaled", fn := fun _ => fun
  | [d1, d2, d3] => { results := [.lit (.bool false)], args := [d1, d2, d3] }
  | _ => none }
def FnExactAddScaledWrongFalsely : Prop := fnExactAddScaledRow.holds Try.pinned (OpenSpec.ofChange fnExactAddScaledWrong)

/-- 'laws.FnExactIsValidLP': WHATEVER THE INPUT: true; the input reads as it did. -/
def fnExactIsValidLPSpec : ChangeSpec := { name := "fnExactIsValidLP", fn := fun _ => fun
  | [d] => { results := [.lit (.bool true)], args := [d] }
  | _ => none }
def fnExactIsValidLPRow : OpenClaim := { program := "ytkhgolblendckaa", sum := "a5a1261b4001944792e82caf55104b57cae58b85943c313481598c80dd78042a", func := "loop.example/g00520/laws.FnExactIsValidLP", spec := "fnExactIsValidLP", unfollowed := true, recurses := true, apart := false }
def FnExactIsValidLPSaid : Prop := fnExactIsValidLPRow.holds Try.pinned (OpenSpec.ofChange fnExactIsValidLPSpec)

/-- ITS FALSE NEIGHBOUR: 'it returns false'. Refute it at one input. -/
def fnExactIsValidLPWrong : ChangeSpec := { name := "fnExactIsValidLP", fn := fun _ => fun
  | [d] => { results := [.lit (.bool false)], args := [d] }
  | _ => none }
def FnExactIsValidLPWrongFalsely : Prop := fnExactIsValidLPRow.holds Try.pinned (OpenSpec.ofChange fnExactIsValidLPWrong)

/-- 'laws.FnExactColumnOf': WHATEVER THE INPUT: true; the input reads as it did. -/
def fnExactColumnOfSpec : ChangeSpec := { name := "fnExactColumnOf", fn := fun _ => fun
  | [d1, d2] => { results := [.lit (.bool true)], args := [d1, d2] }
  | _ => none }
def fnExactColumnOfRow : OpenClaim := { program := "ytkhgolblendckaa", sum := "a5a1261b4001944792e82caf55104b57cae58b85943c313481598c80dd78042a", func := "loop.example/g00520/laws.FnExactColumnOf", spec := "fnExactColumnOf", unfollowed := true, recurses := true, apart := false }
def FnExactColumnOfSaid : Prop := fnExactColumnOfRow.holds Try.pinned (OpenSpec.ofChange fnExactColumnOfSpec)

/-- ITS FALSE NEIGHBOUR: 'it returns false'. Refute it at one input. -/
def fnExactColumnOfWrong : ChangeSpec := { name := "fnExactColumnOf", fn := fun _ => fun
  | [d1, d2] => { results := [.lit (.bool false)], args := [d1, d2] }
  | _ => none }
def FnExactColumnOfWrongFalsely : Prop := fnExactColumnOfRow.holds Try.pinned (OpenSpec.ofChange fnExactColumnOfWrong)

/-- 'laws.FnExactIsFeasible': WHATEVER THE INPUT: true; the input reads as it did. -/
def fnExactIsFeasibleSpec : ChangeSpec := { name := "fnExactIsFeasible", fn := fun _ => fun
  | [d1, d2] => { results := [.lit (.bool true)], args := [d1, d2] }
  | _ => none }
def fnExactIsFeasibleRow : OpenClaim := { program := "ytkhgolblendckaa", sum := "a5a1261b4001944792e82caf55104b57cae58b85943c313481598c80dd78042a", func := "loop.example/g00520/laws.FnExactIsFeasible", spec := "fnExactIsFeasible", unfollowed := true, recurses := true, apart := false }
def FnExactIsFeasibleSaid : Prop := fnExactIsFeasibleRow.holds Try.pinned (OpenSpec.ofChange fnExactIsFeasibleSpec)

/-- ITS FALSE NEIGHBOUR: 'it returns false'. Refute it at one input. -/
def fnExactIsFeasibleWrong : ChangeSpec := { name := "fnExactIsFeasible", fn := fun _ => fun
  | [d1, d2] => { results := [.lit (.bool false)], args := [d1, d2] }
  | _ => none }
def FnExactIsFeasibleWrongFalsely : Prop := fnExactIsFeasibleRow.holds Try.pinned (OpenSpec.ofChange fnExactIsFeasibleWrong)

/- THE SECOND FORM. 'bulk': how many values and letters a reading holds, each counted each time it is reached (what is shared counts as often as it is met; a slice's spare places count too). A statement '..UptoSaid' is the law's where the arguments, and the package variables that the reading takes, are together of bulk at most 1048576: NARROWER than '..Said'. Prove '..Said' where nothing that the law and all that it calls make is longer than what came in: it says more and counts as full. Else prove '..UptoSaid'. A law counts once. -/
mutual
def uptoBulk {H : Type} : DataW H → Nat
  | .lit (.string bytes) => bytes.length + 1
  | .lit _ => 1
  | .nil => 1
  | .ptr d => uptoBulk d + 1
  | .slice elems spare => uptoBulkAll elems + uptoBulkAll spare + 1
  | .agg parts => uptoBulkAll parts + 1
  | .iface _ d => uptoBulk d + 1
  | .map entries => uptoBulkEntries entries + 1
  | .held _ => 1
def uptoBulkAll {H : Type} : List (DataW H) → Nat
  | [] => 0
  | d :: r => uptoBulk d + uptoBulkAll r
def uptoBulkEntries {H : Type} : List (Lit × DataW H) → Nat
  | [] => 0
  | x :: r => uptoBulkEntry x + uptoBulkEntries r
def uptoBulkEntry {H : Type} : Lit × DataW H → Nat
  | (.string bytes, d) => bytes.length + uptoBulk d + 1
  | (_, d) => uptoBulk d + 1
 end
def uptoSmall : (H : Type) → List (DataW H) → Bool := fun _ ds => decide (uptoBulkAll ds ≤ 1048576)
def OpenSpec.upto (s : _root_.Go.ChangeSpec) : _root_.Go.OpenSpec := { _root_.Go.OpenSpec.ofChange s with cond := some uptoSmall }

/-- 'laws.FnExactEqualVector', WHERE WHAT IT READS IS OF BULK AT MOST 1048576: true; the input reads as it did. -/
def fnExactEqualVectorUptoRow : OpenClaim := { program := "ytkhgolblendckaa", sum := "a5a1261b4001944792e82caf55104b57cae58b85943c313481598c80dd78042a", func := "loop.example/g00520/laws.FnExactEqualVector", spec := "fnExactEqualVector", apart := false, narrowed := true }
def FnExactEqualVectorUptoSaid : Prop := fnExactEqualVectorUptoRow.holds Try.pinned (OpenSpec.upto fnExactEqualVectorSpec)

/-- 'laws.FnExactAllValid', WHERE WHAT IT READS IS OF BULK AT MOST 1048576: true; the input reads as it did. -/
def fnExactAllValidUptoRow : OpenClaim := { program := "ytkhgolblendckaa", sum := "a5a1261b4001944792e82caf55104b57cae58b85943c313481598c80dd78042a", func := "loop.example/g00520/laws.FnExactAllValid", spec := "fnExactAllValid", unfollowed := true, recurses := true, apart := false, narrowed := true }
def FnExactAllValidUptoSaid : Prop := fnExactAllValidUptoRow.holds Try.pinned (OpenSpec.upto fnExactAllValidSpec)

/-- 'laws.FnExactIntsToRats', WHERE WHAT IT READS IS OF BULK AT MOST 1048576: true; the input reads as it did. -/
def fnExactIntsToRatsUptoRow : OpenClaim := { program := "ytkhgolblendckaa", sum := "a5a1261b4001944792e82caf55104b57cae58b85943c313481598c80dd78042a", func := "loop.example/g00520/laws.FnExactIntsToRats", spec := "fnExactIntsToRats", apart := false, narrowed := true }
def FnExactIntsToRatsUptoSaid : Prop := fnExactIntsToRatsUptoRow.holds Try.pinned (OpenSpec.upto fnExactIntsToRatsSpec)

/-- 'laws.FnExactEqualResult', WHERE WHAT IT READS IS OF BULK AT MOST 1048576: true; the input reads as it did. -/
def fnExactEqualResultUptoRow : OpenClaim := { program := "ytkhgolblendckaa", sum := "a5a1261b4001944792e82caf55104b57cae58b85943c313481598c80dd78042a", func := "loop.example/g00520/laws.FnExactEqualResult", spec := "fnExactEqualResult", apart := false, narrowed := true }
def FnExactEqualResultUptoSaid : Prop := fnExactEqualResultUptoRow.holds Try.pinned (OpenSpec.upto fnExactEqualResultSpec)

/-- 'laws.FnExactDotRat', WHERE WHAT IT READS IS OF BULK AT MOST 1048576: true; the input reads as it did. -/
def fnExactDotRatUptoRow : OpenClaim := { program := "ytkhgolblendckaa", sum := "a5a1261b4001944792e82caf55104b57cae58b85943c313481598c80dd78042a", func := "loop.example/g00520/laws.FnExactDotRat", spec := "fnExactDotRat", apart := false, narrowed := true }
def FnExactDotRatUptoSaid : Prop := fnExactDotRatUptoRow.holds Try.pinned (OpenSpec.upto fnExactDotRatSpec)

/-- 'laws.FnExactAddScaled', WHERE WHAT IT READS IS OF BULK AT MOST 1048576: true; the input reads as it did. -/
def fnExactAddScaledUptoRow : OpenClaim := { program := "ytkhgolblendckaa", sum := "a5a1261b4001944792e82caf55104b57cae58b85943c313481598c80dd78042a", func := "loop.example/g00520/laws.FnExactAddScaled", spec := "fnExactAddScaled", apart := false, narrowed := true }
def FnExactAddScaledUptoSaid : Prop := fnExactAddScaledUptoRow.holds Try.pinned (OpenSpec.upto fnExactAddScaledSpec)

/-- 'laws.FnExactIsValidLP', WHERE WHAT IT READS IS OF BULK AT MOST 1048576: true; the input reads as it did. -/
def fnExactIsValidLPUptoRow : OpenClaim := { program := "ytkhgolblendckaa", sum := "a5a1261b4001944792e82caf55104b57cae58b85943c313481598c80dd78042a", func := "loop.example/g00520/laws.FnExactIsValidLP", spec := "fnExactIsValidLP", unfollowed := true, recurses := true, apart := false, narrowed := true }
def FnExactIsValidLPUptoSaid : Prop := fnExactIsValidLPUptoRow.holds Try.pinned (OpenSpec.upto fnExactIsValidLPSpec)

/-- 'laws.FnExactColumnOf', WHERE WHAT IT READS IS OF BULK AT MOST 1048576: true; the input reads as it did. -/
def fnExactColumnOfUptoRow : OpenClaim := { program := "ytkhgolblendckaa", sum := "a5a1261b4001944792e82caf55104b57cae58b85943c313481598c80dd78042a", func := "loop.example/g00520/laws.FnExactColumnOf", spec := "fnExactColumnOf", unfollowed := true, recurses := true, apart := false, narrowed := true }
def FnExactColumnOfUptoSaid : Prop := fnExactColumnOfUptoRow.holds Try.pinned (OpenSpec.upto fnExactColumnOfSpec)

/-- 'laws.FnExactIsFeasible', WHERE WHAT IT READS IS OF BULK AT MOST 1048576: true; the input reads as it did. -/
def fnExactIsFeasibleUptoRow : OpenClaim := { program := "ytkhgolblendckaa", sum := "a5a1261b4001944792e82caf55104b57cae58b85943c313481598c80dd78042a", func := "loop.example/g00520/laws.FnExactIsFeasible", spec := "fnExactIsFeasible", unfollowed := true, recurses := true, apart := false, narrowed := true }
def FnExactIsFeasibleUptoSaid : Prop := fnExactIsFeasibleUptoRow.holds Try.pinned (OpenSpec.upto fnExactIsFeasibleSpec)

end Rows
end Go.Proofs.Ytkhgolblendckaa
