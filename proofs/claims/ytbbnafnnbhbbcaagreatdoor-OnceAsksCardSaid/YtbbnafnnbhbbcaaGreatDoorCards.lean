/-
  DERIVED. GIVEN WITH THE SEED: THE CARDS: each row of YtbbnafnnbhbbcaaGreatDoorRows.lean that lists a variable, with what it lists TIED to the program's text (the seventh form; the later family's looks); each row that meets fmt, with fmt's text TOLD by the authors' own Lean function (tested against real Go, not proved from fmt's source: count such statements apart). THE CARD IS WHAT COUNTS. Prove the row's statement (the work); the ties are given (YtbbnafnnbhbbcaaGreatDoorTie.lean); close each card by the builder's one call (the guide's Derived/Test/ToyasCard.lean, 'card_holds'). Laid BY PROGRAM, IN A SANDBOX (cutbox-door.mjs). By AI agents, Wed Nov 11 2026. No macro, syntax, notation, axiom, sorry.
-/
import Derived.Test.YtbbnafnnbhbbcaaGreatDoorRows
import GoSem.ClaimSeven
namespace Go.Proofs.YtbbnafnnbhbbcaaGreatDoor
namespace Rows

/-- THE TIED CARD OF 'abacuslaw13.OnceAsks'. -/
def onceAsksCard : Claim7 := { stood := { row := onceAsksRow, standIns := [], harness := (true, "36b51e5e4bd1b5bc93edad11401373f2c11e9c00ae126e6aec55f0b995d0d9fa"), looks := false }, kinds := [], alts := [], laidByText := true, laidKinds := [.data], laidTests := true, laidLooks := .later }
def OnceAsksCardSaid : Prop := Claim7.holds Tryz.pinned (.plain (OpenSpec.ofChange onceAsksSpec)) onceAsksCard

/-- THE SECOND FORM's CARD OF 'abacuslaw13.OnceAsks'. -/
def onceAsksUptoCard : Claim7 := { stood := { row := onceAsksUptoRow, standIns := [], harness := (true, "36b51e5e4bd1b5bc93edad11401373f2c11e9c00ae126e6aec55f0b995d0d9fa"), looks := false }, kinds := [], alts := [], laidByText := true, laidKinds := [.data], laidTests := true, laidLooks := .later }
def OnceAsksUptoCardSaid : Prop := Claim7.holds Tryz.pinned (.plain (OpenSpec.upto onceAsksSpec)) onceAsksUptoCard
end Rows
end Go.Proofs.YtbbnafnnbhbbcaaGreatDoor
