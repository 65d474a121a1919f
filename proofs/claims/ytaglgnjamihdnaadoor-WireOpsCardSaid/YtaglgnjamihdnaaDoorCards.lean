/-
  DERIVED. GIVEN WITH THE SEED: THE CARDS: each row of YtaglgnjamihdnaaDoorRows.lean that lists a variable, with what it lists TIED to the program's text (the seventh form; the later family's looks); each row that meets fmt, with fmt's text TOLD by the authors' own Lean function (tested against real Go, not proved from fmt's source: count such statements apart). THE CARD IS WHAT COUNTS. Prove the row's statement (the work); the ties are given (YtaglgnjamihdnaaDoorTie.lean); close each card by the builder's one call (the guide's Derived/Test/ToyasCard.lean, 'card_holds'). Laid BY PROGRAM, IN A SANDBOX (cutbox-door.mjs). By AI agents, Wed Nov 11 2026. No macro, syntax, notation, axiom, sorry.
-/
import Derived.Test.YtaglgnjamihdnaaDoorRows
import GoSem.ClaimSeven
namespace Go.Proofs.YtaglgnjamihdnaaDoor
namespace Rows

/-- THE TIED CARD OF 'seneschallaw5.WireNamed'. -/
def wireNamedCard : Claim7 := { stood := { row := wireNamedRow, standIns := [], harness := (true, "97a29cddb34b8b4d969d61c8c3af204f36ab5285598553e3cad56c21adbadeea"), looks := false }, kinds := [], alts := [], laidByText := true, laidKinds := [.data, .pinned], laidTests := true, laidLooks := .later }
def WireNamedCardSaid : Prop := Claim7.holds Tryd.pinned (.plain (OpenSpec.ofChange wireNamedSpec)) wireNamedCard

/-- THE TIED CARD OF 'seneschallaw5.WireCut'. -/
def wireCutCard : Claim7 := { stood := { row := wireCutRow, standIns := [], harness := (true, "97a29cddb34b8b4d969d61c8c3af204f36ab5285598553e3cad56c21adbadeea"), looks := false }, kinds := [], alts := [], laidByText := true, laidKinds := [.data, .pinned], laidTests := true, laidLooks := .later }
def WireCutCardSaid : Prop := Claim7.holds Tryd.pinned (.plain (OpenSpec.ofChange wireCutSpec)) wireCutCard

/-- THE TIED CARD OF 'seneschallaw5.WireOps'. -/
def wireOpsCard : Claim7 := { stood := { row := wireOpsRow, standIns := [], harness := (true, "97a29cddb34b8b4d969d61c8c3af204f36ab5285598553e3cad56c21adbadeea"), looks := false }, kinds := [], alts := [], laidByText := true, laidKinds := [.data, .pinned], laidTests := true, laidLooks := .later }
def WireOpsCardSaid : Prop := Claim7.holds Tryd.pinned (.plain (OpenSpec.ofChange wireOpsSpec)) wireOpsCard

/-- THE SECOND FORM's CARD OF 'seneschallaw5.WireNamed'. -/
def wireNamedUptoCard : Claim7 := { stood := { row := wireNamedUptoRow, standIns := [], harness := (true, "97a29cddb34b8b4d969d61c8c3af204f36ab5285598553e3cad56c21adbadeea"), looks := false }, kinds := [], alts := [], laidByText := true, laidKinds := [.data, .pinned], laidTests := true, laidLooks := .later }
def WireNamedUptoCardSaid : Prop := Claim7.holds Tryd.pinned (.plain (OpenSpec.upto wireNamedSpec)) wireNamedUptoCard

/-- THE SECOND FORM's CARD OF 'seneschallaw5.WireCut'. -/
def wireCutUptoCard : Claim7 := { stood := { row := wireCutUptoRow, standIns := [], harness := (true, "97a29cddb34b8b4d969d61c8c3af204f36ab5285598553e3cad56c21adbadeea"), looks := false }, kinds := [], alts := [], laidByText := true, laidKinds := [.data, .pinned], laidTests := true, laidLooks := .later }
def WireCutUptoCardSaid : Prop := Claim7.holds Tryd.pinned (.plain (OpenSpec.upto wireCutSpec)) wireCutUptoCard

/-- THE SECOND FORM's CARD OF 'seneschallaw5.WireOps'. -/
def wireOpsUptoCard : Claim7 := { stood := { row := wireOpsUptoRow, standIns := [], harness := (true, "97a29cddb34b8b4d969d61c8c3af204f36ab5285598553e3cad56c21adbadeea"), looks := false }, kinds := [], alts := [], laidByText := true, laidKinds := [.data, .pinned], laidTests := true, laidLooks := .later }
def WireOpsUptoCardSaid : Prop := Claim7.holds Tryd.pinned (.plain (OpenSpec.upto wireOpsSpec)) wireOpsUptoCard
end Rows
end Go.Proofs.YtaglgnjamihdnaaDoor
