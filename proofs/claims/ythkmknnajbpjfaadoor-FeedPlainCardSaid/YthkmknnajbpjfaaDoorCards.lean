/-
  DERIVED. GIVEN WITH THE SEED: THE CARDS: each row of YthkmknnajbpjfaaDoorRows.lean that lists a variable, with what it lists TIED to the program's text (the seventh form; the later family's looks); each row that meets fmt, with fmt's text TOLD by the authors' own Lean function (tested against real Go, not proved from fmt's source: count such statements apart). THE CARD IS WHAT COUNTS. Prove the row's statement (the work); the ties are given (YthkmknnajbpjfaaDoorTie.lean); close each card by the builder's one call (the guide's Derived/Test/ToyasCard.lean, 'card_holds'). Laid BY PROGRAM, IN A SANDBOX (cutbox-door.mjs). By AI agents, Wed Nov 11 2026. No macro, syntax, notation, axiom, sorry.
-/
import Derived.Test.YthkmknnajbpjfaaDoorRows
import GoSem.ClaimSeven
namespace Go.Proofs.YthkmknnajbpjfaaDoor
namespace Rows

/-- THE TIED CARD OF 'abacuslaw21.FeedSteps'. -/
def feedStepsCard : Claim7 := { stood := { row := feedStepsRow, standIns := [], harness := (true, "febee9bb5cd8871f7563f9d4eeeb987584544aa02916044cdfb9f34b6f5276b4"), looks := false }, kinds := [], alts := [], laidByText := true, laidKinds := [.data], laidTests := true, laidLooks := .later }
def FeedStepsCardSaid : Prop := Claim7.holds Tryd.pinned (.plain (OpenSpec.ofChange feedStepsSpec)) feedStepsCard

/-- THE TIED CARD OF 'abacuslaw21.FeedPlain'. -/
def feedPlainCard : Claim7 := { stood := { row := feedPlainRow, standIns := [], harness := (true, "febee9bb5cd8871f7563f9d4eeeb987584544aa02916044cdfb9f34b6f5276b4"), looks := false }, kinds := [], alts := [], laidByText := true, laidKinds := [.data], laidTests := true, laidLooks := .later }
def FeedPlainCardSaid : Prop := Claim7.holds Tryd.pinned (.plain (OpenSpec.ofChange feedPlainSpec)) feedPlainCard

/-- THE TIED CARD OF 'abacuslaw21.FeedWhole'. -/
def feedWholeCard : Claim7 := { stood := { row := feedWholeRow, standIns := [], harness := (true, "febee9bb5cd8871f7563f9d4eeeb987584544aa02916044cdfb9f34b6f5276b4"), looks := false }, kinds := [], alts := [], laidByText := true, laidKinds := [.data], laidTests := true, laidLooks := .later }
def FeedWholeCardSaid : Prop := Claim7.holds Tryd.pinned (.plain (OpenSpec.ofChange feedWholeSpec)) feedWholeCard

/-- THE SECOND FORM's CARD OF 'abacuslaw21.FeedSteps'. -/
def feedStepsUptoCard : Claim7 := { stood := { row := feedStepsUptoRow, standIns := [], harness := (true, "febee9bb5cd8871f7563f9d4eeeb987584544aa02916044cdfb9f34b6f5276b4"), looks := false }, kinds := [], alts := [], laidByText := true, laidKinds := [.data], laidTests := true, laidLooks := .later }
def FeedStepsUptoCardSaid : Prop := Claim7.holds Tryd.pinned (.plain (OpenSpec.upto feedStepsSpec)) feedStepsUptoCard

/-- THE SECOND FORM's CARD OF 'abacuslaw21.FeedPlain'. -/
def feedPlainUptoCard : Claim7 := { stood := { row := feedPlainUptoRow, standIns := [], harness := (true, "febee9bb5cd8871f7563f9d4eeeb987584544aa02916044cdfb9f34b6f5276b4"), looks := false }, kinds := [], alts := [], laidByText := true, laidKinds := [.data], laidTests := true, laidLooks := .later }
def FeedPlainUptoCardSaid : Prop := Claim7.holds Tryd.pinned (.plain (OpenSpec.upto feedPlainSpec)) feedPlainUptoCard

/-- THE SECOND FORM's CARD OF 'abacuslaw21.FeedWhole'. -/
def feedWholeUptoCard : Claim7 := { stood := { row := feedWholeUptoRow, standIns := [], harness := (true, "febee9bb5cd8871f7563f9d4eeeb987584544aa02916044cdfb9f34b6f5276b4"), looks := false }, kinds := [], alts := [], laidByText := true, laidKinds := [.data], laidTests := true, laidLooks := .later }
def FeedWholeUptoCardSaid : Prop := Claim7.holds Tryd.pinned (.plain (OpenSpec.upto feedWholeSpec)) feedWholeUptoCard
end Rows
end Go.Proofs.YthkmknnajbpjfaaDoor
