/-
  No cell of these rows narrows 'for every input' (looked for: loops, veiled, ifaces, maps, wideKeys, modest, calm, conditions, laid).
  DERIVED. THE GIVEN ROWS OF THIS SEAT. 7 by the template 'for every input the law returns true; each argument reads behind the call as it read before'; 0 by the template 'total and deterministic' (their statements: YtbjlkbpjmjpdkaaTotals.lean).
  GIVEN WITH THE SEED: the statements are not yours to turn. If you find one false, say at which input.
  Laid BY PROGRAM, IN A SANDBOX (cutbox-rows.mjs): the forced cells as the released guide's own fill.sh prints them over the translation 7e21fe17c029c1b7… (all of the seat's roots in one cut). By AI agents, Wed Nov 11 2026. No macro, syntax, notation, axiom, sorry.
-/
import Derived.Test.YtbjlkbpjmjpdkaaChecked
import GoSem.Claim
import GoSem.ClaimJoined
import GoSem.ClaimMapViews
import Derived.JoinedTies
import Derived.KernelRfl
namespace Go.Proofs.Ytbjlkbpjmjpdkaa
/- THE CELL 'sum', in the pinned program and in every row, IS THE sha256 OF THE DUMP (.gsa) THAT YtbjlkbpjmjpdkaaProg.lean LOADS. Nothing in Lean hashes anything: it is a label: what it is worth is what the hold of that sum in a sandbox is worth. -/
noncomputable def Try.pinned : Pinned := { name := "ytbjlkbpjmjpdkaa", sum := "7e21fe17c029c1b75c0273ddafdfee298b641f87c0499c30fdb9284bec79e623", checked := Try.checked }
namespace Rows
def none {H : Type} : Left H := { results := [], args := [] }

/-- 'laws.FnExactCompareRat': WHATEVER THE INPUT: true; the input reads as it did. -/
def fnExactCompareRatSpec : ChangeSpec := { name := "fnExactCompareRat", fn := fun _ => fun
  | [d1, d2] => { results := [.lit (.bool true)], args := [d1, d2] }
  | _ => none }
def fnExactCompareRatRow : OpenClaim := { program := "ytbjlkbpjmjpdkaa", sum := "7e21fe17c029c1b75c0273ddafdfee298b641f87c0499c30fdb9284bec79e623", func := "loop.example/g00520/laws.FnExactCompareRat", spec := "fnExactCompareRat", apart := false }
def FnExactCompareRatSaid : Prop := fnExactCompareRatRow.holds Try.pinned (OpenSpec.ofChange fnExactCompareRatSpec)

/-- ITS FALSE NEIGHBOUR: 'it returns false'. Refute it at one input. -/
def fnExactCompareRatWrong : ChangeSpec := { name := "fnExactCompareRat", fn := fun _ => fun
  | [d1, d2] => { results := [.lit (.bool false)], args := [d1, d2] }
  | _ => none }
def FnExactCompareRatWrongFalsely : Prop := fnExactCompareRatRow.holds Try.pinned (OpenSpec.ofChange fnExactCompareRatWrong)

/-- 'laws.FnExactRatOf': WHATEVER THE INPUT: true; the input reads as it did. -/
def fnExactRatOfSpec : ChangeSpec := { name := "fnExactRatOf", fn := fun _ => fun
  | [d1, d2] => { results := [.lit (.bool true)], args := [d1, d2] }
  | _ => none }
def fnExactRatOfRow : OpenClaim := { program := "ytbjlkbpjmjpdkaa", sum := "7e21fe17c029c1b75c0273ddafdfee298b641f87c0499c30fdb9284bec79e623", func := "loop.example/g00520/laws.FnExactRatOf", spec := "fnExactRatOf", apart := false }
def FnExactRatOfSaid : Prop := fnExactRatOfRow.holds Try.pinned (OpenSpec.ofChange fnExactRatOfSpec)

/-- ITS FALSE NEIGHBOUR: 'it returns false'. Refute it at one input. -/
def fnExactRatOfWrong : ChangeSpec := { name := "fnExactRatOf", fn := fun _ => fun
  | [d1, d2] => { results := [.lit (.bool false)], args := [d1, d2] }
  | _ => none }
def FnExactRatOfWrongFalsely : Prop := fnExactRatOfRow.holds Try.pinned (OpenSpec.ofChange fnExactRatOfWrong)

/-- 'laws.FnExactAddRat': WHATEVER THE INPUT: true; the input reads as it did. -/
def fnExactAddRatSpec : ChangeSpec := { name := "fnExactAddRat", fn := fun _ => fun
  | [d1, d2] => { results := [.lit (.bool true)], args := [d1, d2] }
  | _ => none }
def fnExactAddRatRow : OpenClaim := { program := "ytbjlkbpjmjpdkaa", sum := "7e21fe17c029c1b75c0273ddafdfee298b641f87c0499c30fdb9284bec79e623", func := "loop.example/g00520/laws.FnExactAddRat", spec := "fnExactAddRat", apart := false }
def FnExactAddRatSaid : Prop := fnExactAddRatRow.holds Try.pinned (OpenSpec.ofChange fnExactAddRatSpec)

/-- ITS FALSE NEIGHBOUR: 'it returns false'. Refute it at one input. -/
def fnExactAddRatWrong : ChangeSpec := { name := "fnExactAddRat", fn := fun _ => fun
  | [d1, d2] => { results := [.lit (.bool false)], args := [d1, d2] }
  | _ => none }
def FnExactAddRatWrongFalsely : Prop := fnExactAddRatRow.holds Try.pinned (OpenSpec.ofChange fnExactAddRatWrong)

/-- 'laws.FnExactDivRat': WHATEVER THE INPUT: true; the input reads as it did. -/
def fnExactDivRatSpec : ChangeSpec := { name := "fnExactDivRat", fn := fun _ => fun
  | [d1, d2] => { results := [.lit (.bool true)], args := [d1, d2] }
  | _ => none }
def fnExactDivRatRow : OpenClaim := { program := "ytbjlkbpjmjpdkaa", sum := "7e21fe17c029c1b75c0273ddafdfee298b641f87c0499c30fdb9284bec79e623", func := "loop.example/g00520/laws.FnExactDivRat", spec := "fnExactDivRat", apart := false }
def FnExactDivRatSaid : Prop := fnExactDivRatRow.holds Try.pinned (OpenSpec.ofChange fnExactDivRatSpec)

/-- ITS FALSE NEIGHBOUR: 'it returns false'. Refute it at one input. -/
def fnExactDivRatWrong : ChangeSpec := { name := "fnExactDivRat", fn := fun _ => fun
  | [d1, d2] => { results := [.lit (.bool false)], args := [d1, d2] }
  | _ => none }
def FnExactDivRatWrongFalsely : Prop := fnExactDivRatRow.holds Try.pinned (OpenSpec.ofChange fnExactDivRatWrong)

/-- 'laws.FnExactMulRat': WHATEVER THE INPUT: true; the input reads as it did. -/
def fnExactMulRatSpec : ChangeSpec := { name := "fnExactMulRat", fn := fun _ => fun
  | [d1, d2] => { results := [.lit (.bool true)], args := [d1, d2] }
  | _ => none }
def fnExactMulRatRow : OpenClaim := { program := "ytbjlkbpjmjpdkaa", sum := "7e21fe17c029c1b75c0273ddafdfee298b641f87c0499c30fdb9284bec79e623", func := "loop.example/g00520/laws.FnExactMulRat", spec := "fnExactMulRat", apart := false }
def FnExactMulRatSaid : Prop := fnExactMulRatRow.holds Try.pinned (OpenSpec.ofChange fnExactMulRatSpec)

/-- ITS FALSE NEIGHBOUR: 'it returns false'. Refute it at one input. -/
def fnExactMulRatWrong : ChangeSpec := { name := "fnExactMulRat", fn := fun _ => fun
  | [d1, d2] => { results := [.lit (.bool false)], args := [d1, d2] }
  | _ => none }
def FnExactMulRatWrongFalsely : Prop := fnExactMulRatRow.holds Try.pinned (OpenSpec.ofChange fnExactMulRatWrong)

/-- 'laws.FnExactSubRat': WHATEVER THE INPUT: true; the input reads as it did. -/
def fnExactSubRatSpec : ChangeSpec := { name := "fnExactSubRat", fn := fun _ => fun
  | [d1, d2] => { results := [.lit (.bool true)], args := [d1, d2] }
  | _ => none }
def fnExactSubRatRow : OpenClaim := { program := "ytbjlkbpjmjpdkaa", sum := "7e21fe17c029c1b75c0273ddafdfee298b641f87c0499c30fdb9284bec79e623", func := "loop.example/g00520/laws.FnExactSubRat", spec := "fnExactSubRat", apart := false }
def FnExactSubRatSaid : Prop := fnExactSubRatRow.holds Try.pinned (OpenSpec.ofChange fnExactSubRatSpec)

/-- ITS FALSE NEIGHBOUR: 'it returns false'. Refute it at one input. -/
def fnExactSubRatWrong : ChangeSpec := { name := "fnExactSubRat", fn := fun _ => fun
  | [d1, d2] => { results := [.lit (.bool false)], args := [d1, d2] }
  | _ => none }
def FnExactSubRatWrongFalsely : Prop := fnExactSubRatRow.holds Try.pinned (OpenSpec.ofChange fnExactSubRatWrong)

/-- 'laws.FnField': WHATEVER THE INPUT: true; the input reads as it did. -/
def fnFieldSpec : ChangeSpec := { name := "fnField", fn := fun _ => fun
  | [d] => { results := [.lit (.bool true)], args := [d] }
  | _ => none }
def fnFieldRow : OpenClaim := { program := "ytbjlkbpjmjpdkaa", sum := "7e21fe17c029c1b75c0273ddafdfee298b641f87c0499c30fdb9284bec79e623", func := "loop.example/g00520/laws.FnField", spec := "fnField", apart := false }
def FnFieldSaid : Prop := fnFieldRow.holds Try.pinned (OpenSpec.ofChange fnFieldSpec)

/-- ITS FALSE NEIGHBOUR: 'it returns false'. Refute it at one input. -/
def fnFieldWrong : ChangeSpec := { name := "fnField", fn := fun _ => fun
  | [d] => { results := [.lit (.bool false)], args := [d] }
  | _ => none }
def FnFieldWrongFalsely : Prop := fnFieldRow.holds Try.pinned (OpenSpec.ofChange fnFieldWrong)

/- THE SECOND FORM. 'bulk': how many values and letters a reading holds, each counted each time it is reached (what is shared counts as often as it is met; a slice's spare places count too). A statement '..UptoSaid' is the law's where the arguments, and the package variables that the reading takes, are together of bulk at most 1048576: NARROWER than '..Said'. Prove '..Said' where nothing that the law and all that it calls make is longer than what came in: it says more and counts as full. Else prove '..UptoSaid'. A law counts once. -/
mutual
def uptoBulk {H : Type} : DataW H → Nat
  | .lit (.string bytes) => bytes.length + 1
  | .lit _ => 1
  | .nil => 1
  | .ptr d => uptoBulk d + 1
  | .slice elems spare => uptoBulkAll elems + uptoBulkAll spare + 1
  | .agg parts => uptoBulkAll parts + 1
  | .iface _ d => uptoBulk d + 1
  | .map entries => uptoBulkEntries entries + 1
  | .held _ => 1
def uptoBulkAll {H : Type} : List (DataW H) → Nat
  | [] => 0
  | d :: r => uptoBulk d + uptoBulkAll r
def uptoBulkEntries {H : Type} : List (Lit × DataW H) → Nat
  | [] => 0
  | x :: r => uptoBulkEntry x + uptoBulkEntries r
def uptoBulkEntry {H : Type} : Lit × DataW H → Nat
  | (.string bytes, d) => bytes.length + uptoBulk d + 1
  | (_, d) => uptoBulk d + 1
 end
def uptoSmall : (H : Type) → List (DataW H) → Bool := fun _ ds => decide (uptoBulkAll ds ≤ 1048576)
def OpenSpec.upto (s : _root_.Go.ChangeSpec) : _root_.Go.OpenSpec := { _root_.Go.OpenSpec.ofChange s with cond := some uptoSmall }

/-- 'laws.FnExactCompareRat', WHERE WHAT IT READS IS OF BULK AT MOST 1048576: true; the input reads as it did. -/
def fnExactCompareRatUptoRow : OpenClaim := { program := "ytbjlkbpjmjpdkaa", sum := "7e21fe17c029c1b75c0273ddafdfee298b641f87c0499c30fdb9284bec79e623", func := "loop.example/g00520/laws.FnExactCompareRat", spec := "fnExactCompareRat", apart := false, narrowed := true }
def FnExactCompareRatUptoSaid : Prop := fnExactCompareRatUptoRow.holds Try.pinned (OpenSpec.upto fnExactCompareRatSpec)

/-- 'laws.FnExactRatOf', WHERE WHAT IT READS IS OF BULK AT MOST 1048576: true; the input reads as it did. -/
def fnExactRatOfUptoRow : OpenClaim := { program := "ytbjlkbpjmjpdkaa", sum := "7e21fe17c029c1b75c0273ddafdfee298b641f87c0499c30fdb9284bec79e623", func := "loop.example/g00520/laws.FnExactRatOf", spec := "fnExactRatOf", apart := false, narrowed := true }
def FnExactRatOfUptoSaid : Prop := fnExactRatOfUptoRow.holds Try.pinned (OpenSpec.upto fnExactRatOfSpec)

/-- 'laws.FnExactAddRat', WHERE WHAT IT READS IS OF BULK AT MOST 1048576: true; the input reads as it did. -/
def fnExactAddRatUptoRow : OpenClaim := { program := "ytbjlkbpjmjpdkaa", sum := "7e21fe17c029c1b75c0273ddafdfee298b641f87c0499c30fdb9284bec79e623", func := "loop.example/g00520/laws.FnExactAddRat", spec := "fnExactAddRat", apart := false, narrowed := true }
def FnExactAddRatUptoSaid : Prop := fnExactAddRatUptoRow.holds Try.pinned (OpenSpec.upto fnExactAddRatSpec)

/-- 'laws.FnExactDivRat', WHERE WHAT IT READS IS OF BULK AT MOST 1048576: true; the input reads as it did. -/
def fnExactDivRatUptoRow : OpenClaim := { program := "ytbjlkbpjmjpdkaa", sum := "7e21fe17c029c1b75c0273ddafdfee298b641f87c0499c30fdb9284bec79e623", func := "loop.example/g00520/laws.FnExactDivRat", spec := "fnExactDivRat", apart := false, narrowed := true }
def FnExactDivRatUptoSaid : Prop := fnExactDivRatUptoRow.holds Try.pinned (OpenSpec.upto fnExactDivRatSpec)

/-- 'laws.FnExactMulRat', WHERE WHAT IT READS IS OF BULK AT MOST 1048576: true; the input reads as it did. -/
def fnExactMulRatUptoRow : OpenClaim := { program := "ytbjlkbpjmjpdkaa", sum := "7e21fe17c029c1b75c0273ddafdfee298b641f87c0499c30fdb9284bec79e623", func := "loop.example/g00520/laws.FnExactMulRat", spec := "fnExactMulRat", apart := false, narrowed := true }
def FnExactMulRatUptoSaid : Prop := fnExactMulRatUptoRow.holds Try.pinned (OpenSpec.upto fnExactMulRatSpec)

/-- 'laws.FnExactSubRat', WHERE WHAT IT READS IS OF BULK AT MOST 1048576: true; the input reads as it did. -/
def fnExactSubRatUptoRow : OpenClaim := { program := "ytbjlkbpjmjpdkaa", sum := "7e21fe17c029c1b75c0273ddafdfee298b641f87c0499c30fdb9284bec79e623", func := "loop.example/g00520/laws.FnExactSubRat", spec := "fnExactSubRat", apart := false, narrowed := true }
def FnExactSubRatUptoSaid : Prop := fnExactSubRatUptoRow.holds Try.pinned (OpenSpec.upto fnExactSubRatSpec)

/-- 'laws.FnField', WHERE WHAT IT READS IS OF BULK AT MOST 1048576: true; the input reads as it did. -/
def fnFieldUptoRow : OpenClaim := { program := "ytbjlkbpjmjpdkaa", sum := "7e21fe17c029c1b75c0273ddafdfee298b641f87c0499c30fdb9284bec79e623", func := "loop.example/g00520/laws.FnField", spec := "fnField", apart := false, narrowed := true }
def FnFieldUptoSaid : Prop := fnFieldUptoRow.holds Try.pinned (OpenSpec.upto fnFieldSpec)

end Rows
end Go.Proofs.Ytbjlkbpjmjpdkaa
