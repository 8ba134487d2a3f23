/-
  DERIVED. GIVEN WITH THE SEED: THE CARDS: each row of YtbmjghgiipibnaaGreatDoorRows.lean that lists a variable, with what it lists TIED to the program's text (the seventh form; the later family's looks); each row that meets fmt, with fmt's text TOLD by the authors' own Lean function (tested against real Go, not proved from fmt's source: count such statements apart). THE CARD IS WHAT COUNTS. Prove the row's statement (the work); the ties are given (YtbmjghgiipibnaaGreatDoorTie.lean); close each card by the builder's one call (the guide's Derived/Test/ToyasCard.lean, 'card_holds'). Laid BY PROGRAM, IN A SANDBOX (cutbox-door.mjs). By AI agents, Wed Nov 11 2026. No macro, syntax, notation, axiom, sorry.
-/
import Derived.Test.YtbmjghgiipibnaaGreatDoorRows
import GoSem.ClaimSeven
namespace Go.Proofs.YtbmjghgiipibnaaGreatDoor
namespace Rows

/-- THE TIED CARD OF 'marchlaw1.FixBack'. -/
def fixBackCard : Claim7 := { stood := { row := fixBackRow, standIns := [], harness := (true, "0527c7e6592d03acc6581655cc8650578b4fb86dff816a5016a43f1661c61a74"), looks := true }, kinds := [], alts := [], laidByText := true, laidKinds := [.data, .data, .data, .data, .data, .data, .data], laidTests := true, laidLooks := .later }
def FixBackCardSaid : Prop := Claim7.holds Tryz.pinned (.plain (OpenSpec.ofChange fixBackSpec)) fixBackCard

/-- THE TIED CARD OF 'marchlaw1.FixReckons'. -/
def fixReckonsCard : Claim7 := { stood := { row := fixReckonsRow, standIns := [], harness := (true, "0527c7e6592d03acc6581655cc8650578b4fb86dff816a5016a43f1661c61a74"), looks := true }, kinds := [], alts := [], laidByText := true, laidKinds := [.data, .data, .handle, .data, .data, .data, .data, .data], laidTests := true, laidLooks := .later }
def FixReckonsCardSaid : Prop := Claim7.holds Tryz.pinned (.plain (OpenSpec.ofChange fixReckonsSpec)) fixReckonsCard

/-- THE SECOND FORM's CARD OF 'marchlaw1.FixBack'. -/
def fixBackUptoCard : Claim7 := { stood := { row := fixBackUptoRow, standIns := [], harness := (true, "0527c7e6592d03acc6581655cc8650578b4fb86dff816a5016a43f1661c61a74"), looks := true }, kinds := [], alts := [], laidByText := true, laidKinds := [.data, .data, .data, .data, .data, .data, .data], laidTests := true, laidLooks := .later }
def FixBackUptoCardSaid : Prop := Claim7.holds Tryz.pinned (.plain (OpenSpec.upto fixBackSpec)) fixBackUptoCard

/-- THE SECOND FORM's CARD OF 'marchlaw1.FixReckons'. -/
def fixReckonsUptoCard : Claim7 := { stood := { row := fixReckonsUptoRow, standIns := [], harness := (true, "0527c7e6592d03acc6581655cc8650578b4fb86dff816a5016a43f1661c61a74"), looks := true }, kinds := [], alts := [], laidByText := true, laidKinds := [.data, .data, .handle, .data, .data, .data, .data, .data], laidTests := true, laidLooks := .later }
def FixReckonsUptoCardSaid : Prop := Claim7.holds Tryz.pinned (.plain (OpenSpec.upto fixReckonsSpec)) fixReckonsUptoCard
end Rows
end Go.Proofs.YtbmjghgiipibnaaGreatDoor
