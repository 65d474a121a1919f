/-
  DERIVED. GIVEN WITH THE SEED: THE CARDS: each row of YtngjfjhomikplaaGreatDoorRows.lean that lists a variable, with what it lists TIED to the program's text (the seventh form; the later family's looks); each row that meets fmt, with fmt's text TOLD by the authors' own Lean function (tested against real Go, not proved from fmt's source: count such statements apart). THE CARD IS WHAT COUNTS. Prove the row's statement (the work); the ties are given (YtngjfjhomikplaaGreatDoorTie.lean); close each card by the builder's one call (the guide's Derived/Test/ToyasCard.lean, 'card_holds'). Laid BY PROGRAM, IN A SANDBOX (cutbox-door.mjs). By AI agents, Wed Nov 11 2026. No macro, syntax, notation, axiom, sorry.
-/
import Derived.Test.YtngjfjhomikplaaGreatDoorRows
import GoSem.ClaimSeven
namespace Go.Proofs.YtngjfjhomikplaaGreatDoor
namespace Rows

/-- THE TIED CARD OF 'seneschaltop.TopCertified'. -/
def topCertifiedCard : Claim7 := { stood := { row := topCertifiedRow, standIns := [], harness := (true, "bc9ece9e3ca139898798c7372f5b2f99fb460704e399bd1930d80b67a928855e"), looks := true }, kinds := [], alts := [], laidByText := true, laidKinds := [.data, .pinned], laidTests := true, laidLooks := .later }
def TopCertifiedCardSaid : Prop := Claim7.holds Tryz.pinned (.plain (OpenSpec.ofChange topCertifiedSpec)) topCertifiedCard

/-- THE SECOND FORM's CARD OF 'seneschaltop.TopCertified'. -/
def topCertifiedUptoCard : Claim7 := { stood := { row := topCertifiedUptoRow, standIns := [], harness := (true, "bc9ece9e3ca139898798c7372f5b2f99fb460704e399bd1930d80b67a928855e"), looks := true }, kinds := [], alts := [], laidByText := true, laidKinds := [.data, .pinned], laidTests := true, laidLooks := .later }
def TopCertifiedUptoCardSaid : Prop := Claim7.holds Tryz.pinned (.plain (OpenSpec.upto topCertifiedSpec)) topCertifiedUptoCard
end Rows
end Go.Proofs.YtngjfjhomikplaaGreatDoor
