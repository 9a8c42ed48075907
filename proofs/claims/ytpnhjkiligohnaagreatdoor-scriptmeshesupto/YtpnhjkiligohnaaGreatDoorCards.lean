/-
  DERIVED. GIVEN WITH THE SEED: THE CARDS: each row of YtpnhjkiligohnaaGreatDoorRows.lean that lists a variable, with what it lists TIED to the program's text (the seventh form; the later family's looks); each row that meets fmt, with fmt's text TOLD by the authors' own Lean function (tested against real Go, not proved from fmt's source: count such statements apart). THE CARD IS WHAT COUNTS. Prove the row's statement (the work); the ties are given (YtpnhjkiligohnaaGreatDoorTie.lean); close each card by the builder's one call (the guide's Derived/Test/ToyasCard.lean, 'card_holds'). Laid BY PROGRAM, IN A SANDBOX (cutbox-door.mjs). By AI agents, Wed Nov 11 2026. No macro, syntax, notation, axiom, sorry.
-/
import Derived.Test.YtpnhjkiligohnaaGreatDoorRows
import GoSem.ClaimSeven
namespace Go.Proofs.YtpnhjkiligohnaaGreatDoor
namespace Rows

/-- THE TIED CARD OF 'portagelaw23.ScriptDecodes'. -/
def scriptDecodesCard : Claim7 := { stood := { row := scriptDecodesRow, standIns := [], harness := (true, "01a43aa6d7d46cddd37115373f76f8dc4755a92a95e23ec9d6043a7ce518f5db"), looks := false }, kinds := [], alts := [], laidByText := true, laidKinds := [.data, .data, .data], laidTests := true, laidLooks := .later }
def ScriptDecodesCardSaid : Prop := Claim7.holds Tryz.pinned (.plain (OpenSpec.ofChange scriptDecodesSpec)) scriptDecodesCard

/-- THE TIED CARD OF 'portagelaw23.ScriptEncodes'. -/
def scriptEncodesCard : Claim7 := { stood := { row := scriptEncodesRow, standIns := [], harness := (true, "01a43aa6d7d46cddd37115373f76f8dc4755a92a95e23ec9d6043a7ce518f5db"), looks := false }, kinds := [], alts := [], laidByText := true, laidKinds := [.data, .data, .data], laidTests := true, laidLooks := .later }
def ScriptEncodesCardSaid : Prop := Claim7.holds Tryz.pinned (.plain (OpenSpec.ofChange scriptEncodesSpec)) scriptEncodesCard

/-- THE TIED CARD OF 'portagelaw23.ScriptBack'. -/
def scriptBackCard : Claim7 := { stood := { row := scriptBackRow, standIns := [], harness := (true, "01a43aa6d7d46cddd37115373f76f8dc4755a92a95e23ec9d6043a7ce518f5db"), looks := false }, kinds := [], alts := [], laidByText := true, laidKinds := [.data, .data, .data], laidTests := true, laidLooks := .later }
def ScriptBackCardSaid : Prop := Claim7.holds Tryz.pinned (.plain (OpenSpec.ofChange scriptBackSpec)) scriptBackCard

/-- THE TIED CARD OF 'portagelaw23.ScriptMeshes'. -/
def scriptMeshesCard : Claim7 := { stood := { row := scriptMeshesRow, standIns := [], harness := (true, "01a43aa6d7d46cddd37115373f76f8dc4755a92a95e23ec9d6043a7ce518f5db"), looks := false }, kinds := [], alts := [], laidByText := true, laidKinds := [.data, .data, .data], laidTests := true, laidLooks := .later }
def ScriptMeshesCardSaid : Prop := Claim7.holds Tryz.pinned (.plain (OpenSpec.ofChange scriptMeshesSpec)) scriptMeshesCard

/-- THE SECOND FORM's CARD OF 'portagelaw23.ScriptDecodes'. -/
def scriptDecodesUptoCard : Claim7 := { stood := { row := scriptDecodesUptoRow, standIns := [], harness := (true, "01a43aa6d7d46cddd37115373f76f8dc4755a92a95e23ec9d6043a7ce518f5db"), looks := false }, kinds := [], alts := [], laidByText := true, laidKinds := [.data, .data, .data], laidTests := true, laidLooks := .later }
def ScriptDecodesUptoCardSaid : Prop := Claim7.holds Tryz.pinned (.plain (OpenSpec.upto scriptDecodesSpec)) scriptDecodesUptoCard

/-- THE SECOND FORM's CARD OF 'portagelaw23.ScriptEncodes'. -/
def scriptEncodesUptoCard : Claim7 := { stood := { row := scriptEncodesUptoRow, standIns := [], harness := (true, "01a43aa6d7d46cddd37115373f76f8dc4755a92a95e23ec9d6043a7ce518f5db"), looks := false }, kinds := [], alts := [], laidByText := true, laidKinds := [.data, .data, .data], laidTests := true, laidLooks := .later }
def ScriptEncodesUptoCardSaid : Prop := Claim7.holds Tryz.pinned (.plain (OpenSpec.upto scriptEncodesSpec)) scriptEncodesUptoCard

/-- THE SECOND FORM's CARD OF 'portagelaw23.ScriptBack'. -/
def scriptBackUptoCard : Claim7 := { stood := { row := scriptBackUptoRow, standIns := [], harness := (true, "01a43aa6d7d46cddd37115373f76f8dc4755a92a95e23ec9d6043a7ce518f5db"), looks := false }, kinds := [], alts := [], laidByText := true, laidKinds := [.data, .data, .data], laidTests := true, laidLooks := .later }
def ScriptBackUptoCardSaid : Prop := Claim7.holds Tryz.pinned (.plain (OpenSpec.upto scriptBackSpec)) scriptBackUptoCard

/-- THE SECOND FORM's CARD OF 'portagelaw23.ScriptMeshes'. -/
def scriptMeshesUptoCard : Claim7 := { stood := { row := scriptMeshesUptoRow, standIns := [], harness := (true, "01a43aa6d7d46cddd37115373f76f8dc4755a92a95e23ec9d6043a7ce518f5db"), looks := false }, kinds := [], alts := [], laidByText := true, laidKinds := [.data, .data, .data], laidTests := true, laidLooks := .later }
def ScriptMeshesUptoCardSaid : Prop := Claim7.holds Tryz.pinned (.plain (OpenSpec.upto scriptMeshesSpec)) scriptMeshesUptoCard
end Rows
end Go.Proofs.YtpnhjkiligohnaaGreatDoor
