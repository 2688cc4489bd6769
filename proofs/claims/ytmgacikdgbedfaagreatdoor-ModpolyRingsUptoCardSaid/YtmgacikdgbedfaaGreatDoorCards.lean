/-
  DERIVED. GIVEN WITH THE SEED: THE CARDS: each row of YtmgacikdgbedfaaGreatDoorRows.lean that lists a variable, with what it lists TIED to the program's text (the seventh form; the later family's looks); each row that meets fmt, with fmt's text TOLD by the authors' own Lean function (tested against real Go, not proved from fmt's source: count such statements apart). THE CARD IS WHAT COUNTS. Prove the row's statement (the work); the ties are given (YtmgacikdgbedfaaGreatDoorTie.lean); close each card by the builder's one call (the guide's Derived/Test/ToyasCard.lean, 'card_holds'). Laid BY PROGRAM, IN A SANDBOX (cutbox-door.mjs). By AI agents, Wed Nov 11 2026. No macro, syntax, notation, axiom, sorry.
-/
import Derived.Test.YtmgacikdgbedfaaGreatDoorRows
import GoSem.ClaimSeven
namespace Go.Proofs.YtmgacikdgbedfaaGreatDoor
namespace Rows

/-- THE TIED CARD OF 'similelaw08.ModpolyRings'. -/
def modpolyRingsCard : Claim7 := { stood := { row := modpolyRingsRow, standIns := [], harness := (true, "4fe0556d9b27f41b623ab3b8e80a48184bb01aa081eeaaeccba9144c14d438ef"), looks := false }, kinds := [], alts := [], laidByText := true, laidKinds := [.data, .data], laidTests := true, laidLooks := .later }
def ModpolyRingsCardSaid : Prop := Claim7.holds Tryz.pinned (.plain (OpenSpec.ofChange modpolyRingsSpec)) modpolyRingsCard

/-- THE TIED CARD OF 'similelaw08.ModpolyValues'. -/
def modpolyValuesCard : Claim7 := { stood := { row := modpolyValuesRow, standIns := [], harness := (true, "4fe0556d9b27f41b623ab3b8e80a48184bb01aa081eeaaeccba9144c14d438ef"), looks := false }, kinds := [], alts := [], laidByText := true, laidKinds := [.data, .data], laidTests := true, laidLooks := .later }
def ModpolyValuesCardSaid : Prop := Claim7.holds Tryz.pinned (.plain (OpenSpec.ofChange modpolyValuesSpec)) modpolyValuesCard

/-- THE SECOND FORM's CARD OF 'similelaw08.ModpolyRings'. -/
def modpolyRingsUptoCard : Claim7 := { stood := { row := modpolyRingsUptoRow, standIns := [], harness := (true, "4fe0556d9b27f41b623ab3b8e80a48184bb01aa081eeaaeccba9144c14d438ef"), looks := false }, kinds := [], alts := [], laidByText := true, laidKinds := [.data, .data], laidTests := true, laidLooks := .later }
def ModpolyRingsUptoCardSaid : Prop := Claim7.holds Tryz.pinned (.plain (OpenSpec.upto modpolyRingsSpec)) modpolyRingsUptoCard

/-- THE SECOND FORM's CARD OF 'similelaw08.ModpolyValues'. -/
def modpolyValuesUptoCard : Claim7 := { stood := { row := modpolyValuesUptoRow, standIns := [], harness := (true, "4fe0556d9b27f41b623ab3b8e80a48184bb01aa081eeaaeccba9144c14d438ef"), looks := false }, kinds := [], alts := [], laidByText := true, laidKinds := [.data, .data], laidTests := true, laidLooks := .later }
def ModpolyValuesUptoCardSaid : Prop := Claim7.holds Tryz.pinned (.plain (OpenSpec.upto modpolyValuesSpec)) modpolyValuesUptoCard
end Rows
end Go.Proofs.YtmgacikdgbedfaaGreatDoor
