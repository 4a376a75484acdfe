/-
  DERIVED. GIVEN WITH THE SEED: THE CARDS: each row of YteahajcgbogjkaaGreatDoorRows.lean that lists a variable, with what it lists TIED to the program's text (the seventh form; the later family's looks); each row that meets fmt, with fmt's text TOLD by the authors' own Lean function (tested against real Go, not proved from fmt's source: count such statements apart). THE CARD IS WHAT COUNTS. Prove the row's statement (the work); the ties are given (YteahajcgbogjkaaGreatDoorTie.lean); close each card by the builder's one call (the guide's Derived/Test/ToyasCard.lean, 'card_holds'). Laid BY PROGRAM, IN A SANDBOX (cutbox-door.mjs). By AI agents, Wed Nov 11 2026. No macro, syntax, notation, axiom, sorry.
-/
import Derived.Test.YteahajcgbogjkaaGreatDoorRows
import GoSem.ClaimSeven
namespace Go.Proofs.YteahajcgbogjkaaGreatDoor
namespace Rows

/-- THE TIED CARD OF 'chainmanlaw18.XsortPasses'. -/
def xsortPassesCard : Claim7 := { stood := { row := xsortPassesRow, standIns := [], harness := (true, "e57628ef3f14218dfaab3b3de0afff012b413409ae773e79ad60cea807cbc315"), looks := false }, kinds := [], alts := [], laidByText := true, laidKinds := [.data, .data, .data, .data, .pinned], laidTests := true, laidLooks := .later }
def XsortPassesCardSaid : Prop := Claim7.holds Tryz.pinned (.plain (OpenSpec.ofChange xsortPassesSpec)) xsortPassesCard

/-- THE TIED CARD OF 'chainmanlaw29.SamplePicks'. -/
def samplePicksCard : Claim7 := { stood := { row := samplePicksRow, standIns := [], harness := (true, "e57628ef3f14218dfaab3b3de0afff012b413409ae773e79ad60cea807cbc315"), looks := false }, kinds := [], alts := [], laidByText := true, laidKinds := [.data, .data, .data], laidTests := true, laidLooks := .later }
def SamplePicksCardSaid : Prop := Claim7.holds Tryz.pinned (.plain (OpenSpec.ofChange samplePicksSpec)) samplePicksCard

/-- THE SECOND FORM's CARD OF 'chainmanlaw18.XsortPasses'. -/
def xsortPassesUptoCard : Claim7 := { stood := { row := xsortPassesUptoRow, standIns := [], harness := (true, "e57628ef3f14218dfaab3b3de0afff012b413409ae773e79ad60cea807cbc315"), looks := false }, kinds := [], alts := [], laidByText := true, laidKinds := [.data, .data, .data, .data, .pinned], laidTests := true, laidLooks := .later }
def XsortPassesUptoCardSaid : Prop := Claim7.holds Tryz.pinned (.plain (OpenSpec.upto xsortPassesSpec)) xsortPassesUptoCard

/-- THE SECOND FORM's CARD OF 'chainmanlaw29.SamplePicks'. -/
def samplePicksUptoCard : Claim7 := { stood := { row := samplePicksUptoRow, standIns := [], harness := (true, "e57628ef3f14218dfaab3b3de0afff012b413409ae773e79ad60cea807cbc315"), looks := false }, kinds := [], alts := [], laidByText := true, laidKinds := [.data, .data, .data], laidTests := true, laidLooks := .later }
def SamplePicksUptoCardSaid : Prop := Claim7.holds Tryz.pinned (.plain (OpenSpec.upto samplePicksSpec)) samplePicksUptoCard
end Rows
end Go.Proofs.YteahajcgbogjkaaGreatDoor
