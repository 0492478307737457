/-
  DERIVED. GIVEN WITH THE SEED: THE CARDS: each row of YtognccpmaljamaaGreatDoorRows.lean that lists a variable, with what it lists TIED to the program's text (the seventh form; the later family's looks); each row that meets fmt, with fmt's text TOLD by the authors' own Lean function (tested against real Go, not proved from fmt's source: count such statements apart). THE CARD IS WHAT COUNTS. Prove the row's statement (the work); the ties are given (YtognccpmaljamaaGreatDoorTie.lean); close each card by the builder's one call (the guide's Derived/Test/ToyasCard.lean, 'card_holds'). Laid BY PROGRAM, IN A SANDBOX (cutbox-door.mjs). By AI agents, Wed Nov 11 2026. No macro, syntax, notation, axiom, sorry.
-/
import Derived.Test.YtognccpmaljamaaGreatDoorRows
import GoSem.ClaimSeven
namespace Go.Proofs.YtognccpmaljamaaGreatDoor
namespace Rows

/-- THE TIED CARD OF 'sprlaw11.SiteTexts'. -/
def siteTextsCard : Claim7 := { stood := { row := siteTextsRow, standIns := [], harness := (true, "83a579ab4b82e6d6963ee3eced793825325724edc3649dad358f93a318a45bd9"), looks := false }, kinds := [], alts := [], laidByText := true, laidKinds := [.data, .data, .data, .data, .pinned], laidTests := true, laidLooks := .later }
def SiteTextsCardSaid : Prop := Claim7.holds Tryz.pinned (.plain (OpenSpec.ofChange siteTextsSpec)) siteTextsCard

/-- THE TIED CARD OF 'sprlaw11.SiteAsks'. -/
def siteAsksCard : Claim7 := { stood := { row := siteAsksRow, standIns := [], harness := (true, "83a579ab4b82e6d6963ee3eced793825325724edc3649dad358f93a318a45bd9"), looks := false }, kinds := [], alts := [], laidByText := true, laidKinds := [.data, .data, .data, .data, .pinned], laidTests := true, laidLooks := .later }
def SiteAsksCardSaid : Prop := Claim7.holds Tryz.pinned (.plain (OpenSpec.ofChange siteAsksSpec)) siteAsksCard

/-- THE SECOND FORM's CARD OF 'sprlaw11.SiteTexts'. -/
def siteTextsUptoCard : Claim7 := { stood := { row := siteTextsUptoRow, standIns := [], harness := (true, "83a579ab4b82e6d6963ee3eced793825325724edc3649dad358f93a318a45bd9"), looks := false }, kinds := [], alts := [], laidByText := true, laidKinds := [.data, .data, .data, .data, .pinned], laidTests := true, laidLooks := .later }
def SiteTextsUptoCardSaid : Prop := Claim7.holds Tryz.pinned (.plain (OpenSpec.upto siteTextsSpec)) siteTextsUptoCard

/-- THE SECOND FORM's CARD OF 'sprlaw11.SiteAsks'. -/
def siteAsksUptoCard : Claim7 := { stood := { row := siteAsksUptoRow, standIns := [], harness := (true, "83a579ab4b82e6d6963ee3eced793825325724edc3649dad358f93a318a45bd9"), looks := false }, kinds := [], alts := [], laidByText := true, laidKinds := [.data, .data, .data, .data, .pinned], laidTests := true, laidLooks := .later }
def SiteAsksUptoCardSaid : Prop := Claim7.holds Tryz.pinned (.plain (OpenSpec.upto siteAsksSpec)) siteAsksUptoCard
end Rows
end Go.Proofs.YtognccpmaljamaaGreatDoor
