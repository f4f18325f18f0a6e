/-
  DERIVED. GIVEN WITH THE SEED: THE CARDS: each row of YtkhmepbdjdodmaaDoorRows.lean that lists a variable, with what it lists TIED to the program's text (the seventh form; the later family's looks); each row that meets fmt, with fmt's text TOLD by the authors' own Lean function (tested against real Go, not proved from fmt's source: count such statements apart). THE CARD IS WHAT COUNTS. Prove the row's statement (the work); the ties are given (YtkhmepbdjdodmaaDoorTie.lean); close each card by the builder's one call (the guide's Derived/Test/ToyasCard.lean, 'card_holds'). Laid BY PROGRAM, IN A SANDBOX (cutbox-door.mjs). By AI agents, Wed Nov 11 2026. No macro, syntax, notation, axiom, sorry.
-/
import Derived.Test.YtkhmepbdjdodmaaDoorRows
import GoSem.ClaimSeven
namespace Go.Proofs.YtkhmepbdjdodmaaDoor
namespace Rows

/-- THE TIED CARD OF 'laws.FnExactFormatInt'. -/
def fnExactFormatIntCard : Claim7 := { stood := { row := fnExactFormatIntRow, standIns := [], harness := (true, "8aa01fe8b5b011453e34fe321e4cc8b8fbf623ee27c48bee8f8230018468e31e"), looks := false }, kinds := [], alts := [], laidByText := true, laidKinds := [.data, .data, .data], laidTests := true, laidLooks := .later }
def FnExactFormatIntCardSaid : Prop := Claim7.holds Tryd.pinned (.plain (OpenSpec.ofChange fnExactFormatIntSpec)) fnExactFormatIntCard

/-- THE TIED CARD OF 'laws.FnExactFormatRat'. -/
def fnExactFormatRatCard : Claim7 := { stood := { row := fnExactFormatRatRow, standIns := [], harness := (true, "8aa01fe8b5b011453e34fe321e4cc8b8fbf623ee27c48bee8f8230018468e31e"), looks := false }, kinds := [], alts := [], laidByText := true, laidKinds := [.data, .data, .data], laidTests := true, laidLooks := .later }
def FnExactFormatRatCardSaid : Prop := Claim7.holds Tryd.pinned (.plain (OpenSpec.ofChange fnExactFormatRatSpec)) fnExactFormatRatCard

/-- THE TIED CARD OF 'laws.FnExactParseRat'. -/
def fnExactParseRatCard : Claim7 := { stood := { row := fnExactParseRatRow, standIns := [], harness := (true, "8aa01fe8b5b011453e34fe321e4cc8b8fbf623ee27c48bee8f8230018468e31e"), looks := false }, kinds := [], alts := [], laidByText := true, laidKinds := [.data, .data, .data], laidTests := true, laidLooks := .later }
def FnExactParseRatCardSaid : Prop := Claim7.holds Tryd.pinned (.plain (OpenSpec.ofChange fnExactParseRatSpec)) fnExactParseRatCard

/-- THE TIED CARD OF 'laws.FnExactFormatVector'. -/
def fnExactFormatVectorCard : Claim7 := { stood := { row := fnExactFormatVectorRow, standIns := [], harness := (true, "8aa01fe8b5b011453e34fe321e4cc8b8fbf623ee27c48bee8f8230018468e31e"), looks := false }, kinds := [], alts := [], laidByText := true, laidKinds := [.data, .data, .data], laidTests := true, laidLooks := .later }
def FnExactFormatVectorCardSaid : Prop := Claim7.holds Tryd.pinned (.plain (OpenSpec.ofChange fnExactFormatVectorSpec)) fnExactFormatVectorCard

/-- THE TIED CARD OF 'laws.FnNumbers'. -/
def fnNumbersCard : Claim7 := { stood := { row := fnNumbersRow, standIns := [], harness := (true, "8aa01fe8b5b011453e34fe321e4cc8b8fbf623ee27c48bee8f8230018468e31e"), looks := false }, kinds := [], alts := [], laidByText := true, laidKinds := [.data, .data, .data], laidTests := true, laidLooks := .later }
def FnNumbersCardSaid : Prop := Claim7.holds Tryd.pinned (.plain (OpenSpec.ofChange fnNumbersSpec)) fnNumbersCard

/-- THE TIED CARD OF 'laws.FnVectors'. -/
def fnVectorsCard : Claim7 := { stood := { row := fnVectorsRow, standIns := [], harness := (true, "8aa01fe8b5b011453e34fe321e4cc8b8fbf623ee27c48bee8f8230018468e31e"), looks := false }, kinds := [], alts := [], laidByText := true, laidKinds := [.data, .data, .data], laidTests := true, laidLooks := .later }
def FnVectorsCardSaid : Prop := Claim7.holds Tryd.pinned (.plain (OpenSpec.ofChange fnVectorsSpec)) fnVectorsCard

/-- THE TIED CARD OF 'laws.FnRatText'. -/
def fnRatTextCard : Claim7 := { stood := { row := fnRatTextRow, standIns := [], harness := (true, "8aa01fe8b5b011453e34fe321e4cc8b8fbf623ee27c48bee8f8230018468e31e"), looks := false }, kinds := [], alts := [], laidByText := true, laidKinds := [.data, .data, .data], laidTests := true, laidLooks := .later }
def FnRatTextCardSaid : Prop := Claim7.holds Tryd.pinned (.plain (OpenSpec.ofChange fnRatTextSpec)) fnRatTextCard

/-- THE SECOND FORM's CARD OF 'laws.FnExactFormatInt'. -/
def fnExactFormatIntUptoCard : Claim7 := { stood := { row := fnExactFormatIntUptoRow, standIns := [], harness := (true, "8aa01fe8b5b011453e34fe321e4cc8b8fbf623ee27c48bee8f8230018468e31e"), looks := false }, kinds := [], alts := [], laidByText := true, laidKinds := [.data, .data, .data], laidTests := true, laidLooks := .later }
def FnExactFormatIntUptoCardSaid : Prop := Claim7.holds Tryd.pinned (.plain (OpenSpec.upto fnExactFormatIntSpec)) fnExactFormatIntUptoCard

/-- THE SECOND FORM's CARD OF 'laws.FnExactFormatRat'. -/
def fnExactFormatRatUptoCard : Claim7 := { stood := { row := fnExactFormatRatUptoRow, standIns := [], harness := (true, "8aa01fe8b5b011453e34fe321e4cc8b8fbf623ee27c48bee8f8230018468e31e"), looks := false }, kinds := [], alts := [], laidByText := true, laidKinds := [.data, .data, .data], laidTests := true, laidLooks := .later }
def FnExactFormatRatUptoCardSaid : Prop := Claim7.holds Tryd.pinned (.plain (OpenSpec.upto fnExactFormatRatSpec)) fnExactFormatRatUptoCard

/-- THE SECOND FORM's CARD OF 'laws.FnExactParseRat'. -/
def fnExactParseRatUptoCard : Claim7 := { stood := { row := fnExactParseRatUptoRow, standIns := [], harness := (true, "8aa01fe8b5b011453e34fe321e4cc8b8fbf623ee27c48bee8f8230018468e31e"), looks := false }, kinds := [], alts := [], laidByText := true, laidKinds := [.data, .data, .data], laidTests := true, laidLooks := .later }
def FnExactParseRatUptoCardSaid : Prop := Claim7.holds Tryd.pinned (.plain (OpenSpec.upto fnExactParseRatSpec)) fnExactParseRatUptoCard

/-- THE SECOND FORM's CARD OF 'laws.FnExactFormatVector'. -/
def fnExactFormatVectorUptoCard : Claim7 := { stood := { row := fnExactFormatVectorUptoRow, standIns := [], harness := (true, "8aa01fe8b5b011453e34fe321e4cc8b8fbf623ee27c48bee8f8230018468e31e"), looks := false }, kinds := [], alts := [], laidByText := true, laidKinds := [.data, .data, .data], laidTests := true, laidLooks := .later }
def FnExactFormatVectorUptoCardSaid : Prop := Claim7.holds Tryd.pinned (.plain (OpenSpec.upto fnExactFormatVectorSpec)) fnExactFormatVectorUptoCard

/-- THE SECOND FORM's CARD OF 'laws.FnNumbers'. -/
def fnNumbersUptoCard : Claim7 := { stood := { row := fnNumbersUptoRow, standIns := [], harness := (true, "8aa01fe8b5b011453e34fe321e4cc8b8fbf623ee27c48bee8f8230018468e31e"), looks := false }, kinds := [], alts := [], laidByText := true, laidKinds := [.data, .data, .data], laidTests := true, laidLooks := .later }
def FnNumbersUptoCardSaid : Prop := Claim7.holds Tryd.pinned (.plain (OpenSpec.upto fnNumbersSpec)) fnNumbersUptoCard

/-- THE SECOND FORM's CARD OF 'laws.FnVectors'. -/
def fnVectorsUptoCard : Claim7 := { stood := { row := fnVectorsUptoRow, standIns := [], harness := (true, "8aa01fe8b5b011453e34fe321e4cc8b8fbf623ee27c48bee8f8230018468e31e"), looks := false }, kinds := [], alts := [], laidByText := true, laidKinds := [.data, .data, .data], laidTests := true, laidLooks := .later }
def FnVectorsUptoCardSaid : Prop := Claim7.holds Tryd.pinned (.plain (OpenSpec.upto fnVectorsSpec)) fnVectorsUptoCard

/-- THE SECOND FORM's CARD OF 'laws.FnRatText'. -/
def fnRatTextUptoCard : Claim7 := { stood := { row := fnRatTextUptoRow, standIns := [], harness := (true, "8aa01fe8b5b011453e34fe321e4cc8b8fbf623ee27c48bee8f8230018468e31e"), looks := false }, kinds := [], alts := [], laidByText := true, laidKinds := [.data, .data, .data], laidTests := true, laidLooks := .later }
def FnRatTextUptoCardSaid : Prop := Claim7.holds Tryd.pinned (.plain (OpenSpec.upto fnRatTextSpec)) fnRatTextUptoCard
end Rows
end Go.Proofs.YtkhmepbdjdodmaaDoor
