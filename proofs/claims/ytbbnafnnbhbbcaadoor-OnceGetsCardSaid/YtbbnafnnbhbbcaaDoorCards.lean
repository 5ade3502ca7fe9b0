/-
  DERIVED. GIVEN WITH THE SEED: THE CARDS: each row of YtbbnafnnbhbbcaaDoorRows.lean that lists a variable, with what it lists TIED to the program's text (the seventh form; the later family's looks); each row that meets fmt, with fmt's text TOLD by the authors' own Lean function (tested against real Go, not proved from fmt's source: count such statements apart). THE CARD IS WHAT COUNTS. Prove the row's statement (the work); the ties are given (YtbbnafnnbhbbcaaDoorTie.lean); close each card by the builder's one call (the guide's Derived/Test/ToyasCard.lean, 'card_holds'). Laid BY PROGRAM, IN A SANDBOX (cutbox-door.mjs). By AI agents, Wed Nov 11 2026. No macro, syntax, notation, axiom, sorry.
-/
import Derived.Test.YtbbnafnnbhbbcaaDoorRows
import GoSem.ClaimSeven
namespace Go.Proofs.YtbbnafnnbhbbcaaDoor
namespace Rows

/-- THE TIED CARD OF 'abacuslaw13.OnceSteps'. -/
def onceStepsCard : Claim7 := { stood := { row := onceStepsRow, standIns := [], harness := (true, "0b8df3c5eac930984bfa0026b1cdbd57359a3644a7ce7da165429aadba0f9f95"), looks := false }, kinds := [], alts := [], laidByText := true, laidKinds := [.data], laidTests := true, laidLooks := .later }
def OnceStepsCardSaid : Prop := Claim7.holds Tryd.pinned (.plain (OpenSpec.ofChange onceStepsSpec)) onceStepsCard

/-- THE TIED CARD OF 'abacuslaw13.OnceOnce'. -/
def onceOnceCard : Claim7 := { stood := { row := onceOnceRow, standIns := [], harness := (true, "0b8df3c5eac930984bfa0026b1cdbd57359a3644a7ce7da165429aadba0f9f95"), looks := false }, kinds := [], alts := [], laidByText := true, laidKinds := [.data], laidTests := true, laidLooks := .later }
def OnceOnceCardSaid : Prop := Claim7.holds Tryd.pinned (.plain (OpenSpec.ofChange onceOnceSpec)) onceOnceCard

/-- THE TIED CARD OF 'abacuslaw13.OnceGrows'. -/
def onceGrowsCard : Claim7 := { stood := { row := onceGrowsRow, standIns := [], harness := (true, "0b8df3c5eac930984bfa0026b1cdbd57359a3644a7ce7da165429aadba0f9f95"), looks := false }, kinds := [], alts := [], laidByText := true, laidKinds := [.data], laidTests := true, laidLooks := .later }
def OnceGrowsCardSaid : Prop := Claim7.holds Tryd.pinned (.plain (OpenSpec.ofChange onceGrowsSpec)) onceGrowsCard

/-- THE TIED CARD OF 'abacuslaw13.OnceGets'. -/
def onceGetsCard : Claim7 := { stood := { row := onceGetsRow, standIns := [], harness := (true, "0b8df3c5eac930984bfa0026b1cdbd57359a3644a7ce7da165429aadba0f9f95"), looks := false }, kinds := [], alts := [], laidByText := true, laidKinds := [.data], laidTests := true, laidLooks := .later }
def OnceGetsCardSaid : Prop := Claim7.holds Tryd.pinned (.plain (OpenSpec.ofChange onceGetsSpec)) onceGetsCard

/-- THE SECOND FORM's CARD OF 'abacuslaw13.OnceSteps'. -/
def onceStepsUptoCard : Claim7 := { stood := { row := onceStepsUptoRow, standIns := [], harness := (true, "0b8df3c5eac930984bfa0026b1cdbd57359a3644a7ce7da165429aadba0f9f95"), looks := false }, kinds := [], alts := [], laidByText := true, laidKinds := [.data], laidTests := true, laidLooks := .later }
def OnceStepsUptoCardSaid : Prop := Claim7.holds Tryd.pinned (.plain (OpenSpec.upto onceStepsSpec)) onceStepsUptoCard

/-- THE SECOND FORM's CARD OF 'abacuslaw13.OnceOnce'. -/
def onceOnceUptoCard : Claim7 := { stood := { row := onceOnceUptoRow, standIns := [], harness := (true, "0b8df3c5eac930984bfa0026b1cdbd57359a3644a7ce7da165429aadba0f9f95"), looks := false }, kinds := [], alts := [], laidByText := true, laidKinds := [.data], laidTests := true, laidLooks := .later }
def OnceOnceUptoCardSaid : Prop := Claim7.holds Tryd.pinned (.plain (OpenSpec.upto onceOnceSpec)) onceOnceUptoCard

/-- THE SECOND FORM's CARD OF 'abacuslaw13.OnceGrows'. -/
def onceGrowsUptoCard : Claim7 := { stood := { row := onceGrowsUptoRow, standIns := [], harness := (true, "0b8df3c5eac930984bfa0026b1cdbd57359a3644a7ce7da165429aadba0f9f95"), looks := false }, kinds := [], alts := [], laidByText := true, laidKinds := [.data], laidTests := true, laidLooks := .later }
def OnceGrowsUptoCardSaid : Prop := Claim7.holds Tryd.pinned (.plain (OpenSpec.upto onceGrowsSpec)) onceGrowsUptoCard

/-- THE SECOND FORM's CARD OF 'abacuslaw13.OnceGets'. -/
def onceGetsUptoCard : Claim7 := { stood := { row := onceGetsUptoRow, standIns := [], harness := (true, "0b8df3c5eac930984bfa0026b1cdbd57359a3644a7ce7da165429aadba0f9f95"), looks := false }, kinds := [], alts := [], laidByText := true, laidKinds := [.data], laidTests := true, laidLooks := .later }
def OnceGetsUptoCardSaid : Prop := Claim7.holds Tryd.pinned (.plain (OpenSpec.upto onceGetsSpec)) onceGetsUptoCard
end Rows
end Go.Proofs.YtbbnafnnbhbbcaaDoor
