/-
  DERIVED. GIVEN WITH THE SEED: THE CARDS: each row of YtinhcdppdnmlgaaDoorRows.lean that lists a variable, with what it lists TIED to the program's text (the seventh form; the later family's looks); each row that meets fmt, with fmt's text TOLD by the authors' own Lean function (tested against real Go, not proved from fmt's source: count such statements apart). THE CARD IS WHAT COUNTS. Prove the row's statement (the work); the ties are given (YtinhcdppdnmlgaaDoorTie.lean); close each card by the builder's one call (the guide's Derived/Test/ToyasCard.lean, 'card_holds'). Laid BY PROGRAM, IN A SANDBOX (cutbox-door.mjs). By AI agents, Wed Nov 11 2026. No macro, syntax, notation, axiom, sorry.
-/
import Derived.Test.YtinhcdppdnmlgaaDoorRows
import GoSem.ClaimSeven
namespace Go.Proofs.YtinhcdppdnmlgaaDoor
namespace Rows

/-- THE TIED CARD OF 'laws.FnExactParsePoly'. -/
def fnExactParsePolyCard : Claim7 := { stood := { row := fnExactParsePolyRow, standIns := [], harness := (true, "00ac25611a6ceab405fac472ae87ebc66d0fc28bb20344b552fa8459a9507021"), looks := true }, kinds := [], alts := [], laidByText := true, laidKinds := [.data, .data, .data, .data, .sentinel, .sentinel, .pinned], laidTests := true, laidLooks := .later }
def FnExactParsePolyCardSaid : Prop := Claim7.holds Tryd.pinned (.plain (OpenSpec.ofChange fnExactParsePolySpec)) fnExactParsePolyCard

/-- THE TIED CARD OF 'laws.FnPolyText'. -/
def fnPolyTextCard : Claim7 := { stood := { row := fnPolyTextRow, standIns := [], harness := (true, "00ac25611a6ceab405fac472ae87ebc66d0fc28bb20344b552fa8459a9507021"), looks := true }, kinds := [], alts := [], laidByText := true, laidKinds := [.data, .data, .data, .data, .sentinel, .sentinel, .pinned], laidTests := true, laidLooks := .later }
def FnPolyTextCardSaid : Prop := Claim7.holds Tryd.pinned (.plain (OpenSpec.ofChange fnPolyTextSpec)) fnPolyTextCard

/-- THE TIED CARD OF 'laws.FnExactFormatPoly'. -/
def fnExactFormatPolyCard : Claim7 := { stood := { row := fnExactFormatPolyRow, standIns := [], harness := (true, "00ac25611a6ceab405fac472ae87ebc66d0fc28bb20344b552fa8459a9507021"), looks := true }, kinds := [], alts := [], laidByText := true, laidKinds := [.data, .data, .data], laidTests := true, laidLooks := .later }
def FnExactFormatPolyCardSaid : Prop := Claim7.holds Tryd.pinned (.plain (OpenSpec.ofChange fnExactFormatPolySpec)) fnExactFormatPolyCard

/-- THE TIED CARD OF 'laws.FnExactParseEngine'. -/
def fnExactParseEngineCard : Claim7 := { stood := { row := fnExactParseEngineRow, standIns := [], harness := (true, "00ac25611a6ceab405fac472ae87ebc66d0fc28bb20344b552fa8459a9507021"), looks := true }, kinds := [], alts := [], laidByText := true, laidKinds := [.data, .pinned], laidTests := true, laidLooks := .later }
def FnExactParseEngineCardSaid : Prop := Claim7.holds Tryd.pinned (.plain (OpenSpec.ofChange fnExactParseEngineSpec)) fnExactParseEngineCard

/-- THE SECOND FORM's CARD OF 'laws.FnExactParsePoly'. -/
def fnExactParsePolyUptoCard : Claim7 := { stood := { row := fnExactParsePolyUptoRow, standIns := [], harness := (true, "00ac25611a6ceab405fac472ae87ebc66d0fc28bb20344b552fa8459a9507021"), looks := true }, kinds := [], alts := [], laidByText := true, laidKinds := [.data, .data, .data, .data, .sentinel, .sentinel, .pinned], laidTests := true, laidLooks := .later }
def FnExactParsePolyUptoCardSaid : Prop := Claim7.holds Tryd.pinned (.plain (OpenSpec.upto fnExactParsePolySpec)) fnExactParsePolyUptoCard

/-- THE SECOND FORM's CARD OF 'laws.FnPolyText'. -/
def fnPolyTextUptoCard : Claim7 := { stood := { row := fnPolyTextUptoRow, standIns := [], harness := (true, "00ac25611a6ceab405fac472ae87ebc66d0fc28bb20344b552fa8459a9507021"), looks := true }, kinds := [], alts := [], laidByText := true, laidKinds := [.data, .data, .data, .data, .sentinel, .sentinel, .pinned], laidTests := true, laidLooks := .later }
def FnPolyTextUptoCardSaid : Prop := Claim7.holds Tryd.pinned (.plain (OpenSpec.upto fnPolyTextSpec)) fnPolyTextUptoCard

/-- THE SECOND FORM's CARD OF 'laws.FnExactFormatPoly'. -/
def fnExactFormatPolyUptoCard : Claim7 := { stood := { row := fnExactFormatPolyUptoRow, standIns := [], harness := (true, "00ac25611a6ceab405fac472ae87ebc66d0fc28bb20344b552fa8459a9507021"), looks := true }, kinds := [], alts := [], laidByText := true, laidKinds := [.data, .data, .data], laidTests := true, laidLooks := .later }
def FnExactFormatPolyUptoCardSaid : Prop := Claim7.holds Tryd.pinned (.plain (OpenSpec.upto fnExactFormatPolySpec)) fnExactFormatPolyUptoCard

/-- THE SECOND FORM's CARD OF 'laws.FnExactParseEngine'. -/
def fnExactParseEngineUptoCard : Claim7 := { stood := { row := fnExactParseEngineUptoRow, standIns := [], harness := (true, "00ac25611a6ceab405fac472ae87ebc66d0fc28bb20344b552fa8459a9507021"), looks := true }, kinds := [], alts := [], laidByText := true, laidKinds := [.data, .pinned], laidTests := true, laidLooks := .later }
def FnExactParseEngineUptoCardSaid : Prop := Claim7.holds Tryd.pinned (.plain (OpenSpec.upto fnExactParseEngineSpec)) fnExactParseEngineUptoCard
end Rows
end Go.Proofs.YtinhcdppdnmlgaaDoor
