/-
  DERIVED. GIVEN WITH THE SEED: THE CARDS: each row of YtmhfkbgdkgfafaaGreatDoorRows.lean that lists a variable, with what it lists TIED to the program's text (the seventh form; the later family's looks); each row that meets fmt, with fmt's text TOLD by the authors' own Lean function (tested against real Go, not proved from fmt's source: count such statements apart). THE CARD IS WHAT COUNTS. Prove the row's statement (the work); the ties are given (YtmhfkbgdkgfafaaGreatDoorTie.lean); close each card by the builder's one call (the guide's Derived/Test/ToyasCard.lean, 'card_holds'). Laid BY PROGRAM, IN A SANDBOX (cutbox-door.mjs). By AI agents, Wed Nov 11 2026. No macro, syntax, notation, axiom, sorry.
-/
import Derived.Test.YtmhfkbgdkgfafaaGreatDoorRows
import GoSem.ClaimSeven
namespace Go.Proofs.YtmhfkbgdkgfafaaGreatDoor
namespace Rows

/-- THE TIED CARD OF 'bagnallkeep.JsonBack'. -/
def jsonBackCard : Claim7 := { stood := { row := jsonBackRow, standIns := [], harness := (true, "77033fc7a04bcd2457296e621168a3422eeb5ad59fa16cdec8fe8ba36cead7c8"), looks := true }, kinds := [], alts := [], goes := true, laidByText := true, laidKinds := [.data, .data, .data, .data, .sentinel, .sentinel, .data, .pinned], laidTests := true, laidLooks := .later }
def JsonBackCardSaid : Prop := Claim7.holds Tryz.pinned (.plain (OpenSpec.ofChange jsonBackSpec)) jsonBackCard

/-- THE TIED CARD OF 'bagnallkeep.JsonSpread'. -/
def jsonSpreadCard : Claim7 := { stood := { row := jsonSpreadRow, standIns := [], harness := (true, "77033fc7a04bcd2457296e621168a3422eeb5ad59fa16cdec8fe8ba36cead7c8"), looks := true }, kinds := [], alts := [], goes := true, laidByText := true, laidKinds := [.data, .data, .data, .data, .sentinel, .sentinel, .data, .pinned], laidTests := true, laidLooks := .later }
def JsonSpreadCardSaid : Prop := Claim7.holds Tryz.pinned (.plain (OpenSpec.ofChange jsonSpreadSpec)) jsonSpreadCard

/-- THE TIED CARD OF 'bagnallkeep.JsonFixed'. -/
def jsonFixedCard : Claim7 := { stood := { row := jsonFixedRow, standIns := [], harness := (true, "77033fc7a04bcd2457296e621168a3422eeb5ad59fa16cdec8fe8ba36cead7c8"), looks := true }, kinds := [], alts := [], goes := true, laidByText := true, laidKinds := [.data, .data, .data, .data, .sentinel, .sentinel, .data, .pinned], laidTests := true, laidLooks := .later }
def JsonFixedCardSaid : Prop := Claim7.holds Tryz.pinned (.plain (OpenSpec.ofChange jsonFixedSpec)) jsonFixedCard

/-- THE TIED CARD OF 'bagnallkeep.JsonStrings'. -/
def jsonStringsCard : Claim7 := { stood := { row := jsonStringsRow, standIns := [], harness := (true, "77033fc7a04bcd2457296e621168a3422eeb5ad59fa16cdec8fe8ba36cead7c8"), looks := true }, kinds := [], alts := [], goes := true, laidByText := true, laidKinds := [.data, .data, .data, .data, .sentinel, .sentinel, .data, .pinned], laidTests := true, laidLooks := .later }
def JsonStringsCardSaid : Prop := Claim7.holds Tryz.pinned (.plain (OpenSpec.ofChange jsonStringsSpec)) jsonStringsCard

/-- THE TIED CARD OF 'bagnallkeep.JsonDeep'. -/
def jsonDeepCard : Claim7 := { stood := { row := jsonDeepRow, standIns := [], harness := (true, "77033fc7a04bcd2457296e621168a3422eeb5ad59fa16cdec8fe8ba36cead7c8"), looks := true }, kinds := [], alts := [], goes := true, laidByText := true, laidKinds := [.data, .data, .data, .data, .sentinel, .sentinel, .data, .pinned], laidTests := true, laidLooks := .later }
def JsonDeepCardSaid : Prop := Claim7.holds Tryz.pinned (.plain (OpenSpec.ofChange jsonDeepSpec)) jsonDeepCard

/-- THE TIED CARD OF 'bagnallkeep.JsonNumbers'. -/
def jsonNumbersCard : Claim7 := { stood := { row := jsonNumbersRow, standIns := [], harness := (true, "77033fc7a04bcd2457296e621168a3422eeb5ad59fa16cdec8fe8ba36cead7c8"), looks := true }, kinds := [], alts := [], goes := true, laidByText := true, laidKinds := [.data, .data, .data, .data, .sentinel, .sentinel, .data, .pinned], laidTests := true, laidLooks := .later }
def JsonNumbersCardSaid : Prop := Claim7.holds Tryz.pinned (.plain (OpenSpec.ofChange jsonNumbersSpec)) jsonNumbersCard

/-- THE TIED CARD OF 'bagnallkeep.CrewBack'. -/
def crewBackCard : Claim7 := { stood := { row := crewBackRow, standIns := [], harness := (true, "77033fc7a04bcd2457296e621168a3422eeb5ad59fa16cdec8fe8ba36cead7c8"), looks := true }, kinds := [], alts := [], goes := true, laidByText := true, laidKinds := [.data, .data, .data, .data, .sentinel, .sentinel, .data, .pinned], laidTests := true, laidLooks := .later }
def CrewBackCardSaid : Prop := Claim7.holds Tryz.pinned (.plain (OpenSpec.ofChange crewBackSpec)) crewBackCard

/-- THE SECOND FORM's CARD OF 'bagnallkeep.JsonBack'. -/
def jsonBackUptoCard : Claim7 := { stood := { row := jsonBackUptoRow, standIns := [], harness := (true, "77033fc7a04bcd2457296e621168a3422eeb5ad59fa16cdec8fe8ba36cead7c8"), looks := true }, kinds := [], alts := [], goes := true, laidByText := true, laidKinds := [.data, .data, .data, .data, .sentinel, .sentinel, .data, .pinned], laidTests := true, laidLooks := .later }
def JsonBackUptoCardSaid : Prop := Claim7.holds Tryz.pinned (.plain (OpenSpec.upto jsonBackSpec)) jsonBackUptoCard

/-- THE SECOND FORM's CARD OF 'bagnallkeep.JsonSpread'. -/
def jsonSpreadUptoCard : Claim7 := { stood := { row := jsonSpreadUptoRow, standIns := [], harness := (true, "77033fc7a04bcd2457296e621168a3422eeb5ad59fa16cdec8fe8ba36cead7c8"), looks := true }, kinds := [], alts := [], goes := true, laidByText := true, laidKinds := [.data, .data, .data, .data, .sentinel, .sentinel, .data, .pinned], laidTests := true, laidLooks := .later }
def JsonSpreadUptoCardSaid : Prop := Claim7.holds Tryz.pinned (.plain (OpenSpec.upto jsonSpreadSpec)) jsonSpreadUptoCard

/-- THE SECOND FORM's CARD OF 'bagnallkeep.JsonFixed'. -/
def jsonFixedUptoCard : Claim7 := { stood := { row := jsonFixedUptoRow, standIns := [], harness := (true, "77033fc7a04bcd2457296e621168a3422eeb5ad59fa16cdec8fe8ba36cead7c8"), looks := true }, kinds := [], alts := [], goes := true, laidByText := true, laidKinds := [.data, .data, .data, .data, .sentinel, .sentinel, .data, .pinned], laidTests := true, laidLooks := .later }
def JsonFixedUptoCardSaid : Prop := Claim7.holds Tryz.pinned (.plain (OpenSpec.upto jsonFixedSpec)) jsonFixedUptoCard

/-- THE SECOND FORM's CARD OF 'bagnallkeep.JsonStrings'. -/
def jsonStringsUptoCard : Claim7 := { stood := { row := jsonStringsUptoRow, standIns := [], harness := (true, "77033fc7a04bcd2457296e621168a3422eeb5ad59fa16cdec8fe8ba36cead7c8"), looks := true }, kinds := [], alts := [], goes := true, laidByText := true, laidKinds := [.data, .data, .data, .data, .sentinel, .sentinel, .data, .pinned], laidTests := true, laidLooks := .later }
def JsonStringsUptoCardSaid : Prop := Claim7.holds Tryz.pinned (.plain (OpenSpec.upto jsonStringsSpec)) jsonStringsUptoCard

/-- THE SECOND FORM's CARD OF 'bagnallkeep.JsonDeep'. -/
def jsonDeepUptoCard : Claim7 := { stood := { row := jsonDeepUptoRow, standIns := [], harness := (true, "77033fc7a04bcd2457296e621168a3422eeb5ad59fa16cdec8fe8ba36cead7c8"), looks := true }, kinds := [], alts := [], goes := true, laidByText := true, laidKinds := [.data, .data, .data, .data, .sentinel, .sentinel, .data, .pinned], laidTests := true, laidLooks := .later }
def JsonDeepUptoCardSaid : Prop := Claim7.holds Tryz.pinned (.plain (OpenSpec.upto jsonDeepSpec)) jsonDeepUptoCard

/-- THE SECOND FORM's CARD OF 'bagnallkeep.JsonNumbers'. -/
def jsonNumbersUptoCard : Claim7 := { stood := { row := jsonNumbersUptoRow, standIns := [], harness := (true, "77033fc7a04bcd2457296e621168a3422eeb5ad59fa16cdec8fe8ba36cead7c8"), looks := true }, kinds := [], alts := [], goes := true, laidByText := true, laidKinds := [.data, .data, .data, .data, .sentinel, .sentinel, .data, .pinned], laidTests := true, laidLooks := .later }
def JsonNumbersUptoCardSaid : Prop := Claim7.holds Tryz.pinned (.plain (OpenSpec.upto jsonNumbersSpec)) jsonNumbersUptoCard

/-- THE SECOND FORM's CARD OF 'bagnallkeep.CrewBack'. -/
def crewBackUptoCard : Claim7 := { stood := { row := crewBackUptoRow, standIns := [], harness := (true, "77033fc7a04bcd2457296e621168a3422eeb5ad59fa16cdec8fe8ba36cead7c8"), looks := true }, kinds := [], alts := [], goes := true, laidByText := true, laidKinds := [.data, .data, .data, .data, .sentinel, .sentinel, .data, .pinned], laidTests := true, laidLooks := .later }
def CrewBackUptoCardSaid : Prop := Claim7.holds Tryz.pinned (.plain (OpenSpec.upto crewBackSpec)) crewBackUptoCard
end Rows
end Go.Proofs.YtmhfkbgdkgfafaaGreatDoor
