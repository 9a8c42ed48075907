/-
  DERIVED. GIVEN WITH THE SEED: THE CARDS: each row of YtjkejbenppeagaaGreatDoorRows.lean that lists a variable, with what it lists TIED to the program's text (the seventh form; the later family's looks); each row that meets fmt, with fmt's text TOLD by the authors' own Lean function (tested against real Go, not proved from fmt's source: count such statements apart). THE CARD IS WHAT COUNTS. Prove the row's statement (the work); the ties are given (YtjkejbenppeagaaGreatDoorTie.lean); close each card by the builder's one call (the guide's Derived/Test/ToyasCard.lean, 'card_holds'). Laid BY PROGRAM, IN A SANDBOX (cutbox-door.mjs). By AI agents, Wed Nov 11 2026. No macro, syntax, notation, axiom, sorry.
-/
import Derived.Test.YtjkejbenppeagaaGreatDoorRows
import GoSem.ClaimSeven
namespace Go.Proofs.YtjkejbenppeagaaGreatDoor
namespace Rows

/-- THE TIED CARD OF 'portagelaw24.WatchNil'. -/
def watchNilCard : Claim7 := { stood := { row := watchNilRow, standIns := [], harness := (true, "7d8b2e29a0dfc9f832abe18a7cfc33376fe42228925c4bda1eae99007814ab7f"), looks := false }, kinds := [], alts := [], laidByText := true, laidKinds := [.data, .data, .data], laidTests := true, laidLooks := .later }
def WatchNilCardSaid : Prop := Claim7.holds Tryz.pinned (.plain (OpenSpec.ofChange watchNilSpec)) watchNilCard

/-- THE SECOND FORM's CARD OF 'portagelaw24.WatchNil'. -/
def watchNilUptoCard : Claim7 := { stood := { row := watchNilUptoRow, standIns := [], harness := (true, "7d8b2e29a0dfc9f832abe18a7cfc33376fe42228925c4bda1eae99007814ab7f"), looks := false }, kinds := [], alts := [], laidByText := true, laidKinds := [.data, .data, .data], laidTests := true, laidLooks := .later }
def WatchNilUptoCardSaid : Prop := Claim7.holds Tryz.pinned (.plain (OpenSpec.upto watchNilSpec)) watchNilUptoCard
end Rows
end Go.Proofs.YtjkejbenppeagaaGreatDoor
