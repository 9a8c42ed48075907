/-
  DERIVED. GIVEN WITH THE SEED: THE CARDS: each row of YtphioaaifcmeaaaDoorRows.lean that lists a variable, with what it lists TIED to the program's text (the seventh form; the later family's looks); each row that meets fmt, with fmt's text TOLD by the authors' own Lean function (tested against real Go, not proved from fmt's source: count such statements apart). THE CARD IS WHAT COUNTS. Prove the row's statement (the work); the ties are given (YtphioaaifcmeaaaDoorTie.lean); close each card by the builder's one call (the guide's Derived/Test/ToyasCard.lean, 'card_holds'). Laid BY PROGRAM, IN A SANDBOX (cutbox-door.mjs). By AI agents, Wed Nov 11 2026. No macro, syntax, notation, axiom, sorry.
-/
import Derived.Test.YtphioaaifcmeaaaDoorRows
import GoSem.ClaimSeven
namespace Go.Proofs.YtphioaaifcmeaaaDoor
namespace Rows

/-- THE TIED CARD OF 'portagelaw24.WatchJudges'. -/
def watchJudgesCard : Claim7 := { stood := { row := watchJudgesRow, standIns := [], harness := (true, "fb909d37dbb96d6b01df2ac44c7efca07a028a0d61ee63a7323ea75745cf44e8"), looks := false }, kinds := [], alts := [], laidByText := true, laidKinds := [.data, .data, .data], laidTests := true, laidLooks := .later }
def WatchJudgesCardSaid : Prop := Claim7.holds Tryd.pinned (.plain (OpenSpec.ofChange watchJudgesSpec)) watchJudgesCard

/-- THE TIED CARD OF 'portagelaw24.WatchTexts'. -/
def watchTextsCard : Claim7 := { stood := { row := watchTextsRow, standIns := [], harness := (true, "fb909d37dbb96d6b01df2ac44c7efca07a028a0d61ee63a7323ea75745cf44e8"), looks := false }, kinds := [], alts := [], laidByText := true, laidKinds := [.data, .data, .data], laidTests := true, laidLooks := .later }
def WatchTextsCardSaid : Prop := Claim7.holds Tryd.pinned (.plain (OpenSpec.ofChange watchTextsSpec)) watchTextsCard

/-- THE SECOND FORM's CARD OF 'portagelaw24.WatchJudges'. -/
def watchJudgesUptoCard : Claim7 := { stood := { row := watchJudgesUptoRow, standIns := [], harness := (true, "fb909d37dbb96d6b01df2ac44c7efca07a028a0d61ee63a7323ea75745cf44e8"), looks := false }, kinds := [], alts := [], laidByText := true, laidKinds := [.data, .data, .data], laidTests := true, laidLooks := .later }
def WatchJudgesUptoCardSaid : Prop := Claim7.holds Tryd.pinned (.plain (OpenSpec.upto watchJudgesSpec)) watchJudgesUptoCard

/-- THE SECOND FORM's CARD OF 'portagelaw24.WatchTexts'. -/
def watchTextsUptoCard : Claim7 := { stood := { row := watchTextsUptoRow, standIns := [], harness := (true, "fb909d37dbb96d6b01df2ac44c7efca07a028a0d61ee63a7323ea75745cf44e8"), looks := false }, kinds := [], alts := [], laidByText := true, laidKinds := [.data, .data, .data], laidTests := true, laidLooks := .later }
def WatchTextsUptoCardSaid : Prop := Claim7.holds Tryd.pinned (.plain (OpenSpec.upto watchTextsSpec)) watchTextsUptoCard
end Rows
end Go.Proofs.YtphioaaifcmeaaaDoor
