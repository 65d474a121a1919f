/-
  DERIVED. GIVEN WITH THE SEED: THE CARDS: each row of YtmholjbhjcpkhaaGreatDoorRows.lean that lists a variable, with what it lists TIED to the program's text (the seventh form; the later family's looks); each row that meets fmt, with fmt's text TOLD by the authors' own Lean function (tested against real Go, not proved from fmt's source: count such statements apart). THE CARD IS WHAT COUNTS. Prove the row's statement (the work); the ties are given (YtmholjbhjcpkhaaGreatDoorTie.lean); close each card by the builder's one call (the guide's Derived/Test/ToyasCard.lean, 'card_holds'). Laid BY PROGRAM, IN A SANDBOX (cutbox-door.mjs). By AI agents, Wed Nov 11 2026. No macro, syntax, notation, axiom, sorry.
-/
import Derived.Test.YtmholjbhjcpkhaaGreatDoorRows
import GoSem.ClaimSeven
namespace Go.Proofs.YtmholjbhjcpkhaaGreatDoor
namespace Rows

/-- THE TIED CARD OF 'seneschaltop.TopViews'. -/
def topViewsCard : Claim7 := { stood := { row := topViewsRow, standIns := [], harness := (true, "ea13edb30d9500584eb84bd2852cc62afc54adbf2a1879b5ad1df4329ab87e03"), looks := true }, kinds := [], alts := [], laidByText := true, laidKinds := [.data, .pinned], laidTests := true, laidLooks := .later }
def TopViewsCardSaid : Prop := Claim7.holds Tryz.pinned (.plain (OpenSpec.ofChange topViewsSpec)) topViewsCard

/-- THE SECOND FORM's CARD OF 'seneschaltop.TopViews'. -/
def topViewsUptoCard : Claim7 := { stood := { row := topViewsUptoRow, standIns := [], harness := (true, "ea13edb30d9500584eb84bd2852cc62afc54adbf2a1879b5ad1df4329ab87e03"), looks := true }, kinds := [], alts := [], laidByText := true, laidKinds := [.data, .pinned], laidTests := true, laidLooks := .later }
def TopViewsUptoCardSaid : Prop := Claim7.holds Tryz.pinned (.plain (OpenSpec.upto topViewsSpec)) topViewsUptoCard
end Rows
end Go.Proofs.YtmholjbhjcpkhaaGreatDoor
