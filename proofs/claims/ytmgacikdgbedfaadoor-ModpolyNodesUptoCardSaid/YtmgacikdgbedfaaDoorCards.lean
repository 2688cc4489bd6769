/-
  DERIVED. GIVEN WITH THE SEED: THE CARDS: each row of YtmgacikdgbedfaaDoorRows.lean that lists a variable, with what it lists TIED to the program's text (the seventh form; the later family's looks); each row that meets fmt, with fmt's text TOLD by the authors' own Lean function (tested against real Go, not proved from fmt's source: count such statements apart). THE CARD IS WHAT COUNTS. Prove the row's statement (the work); the ties are given (YtmgacikdgbedfaaDoorTie.lean); close each card by the builder's one call (the guide's Derived/Test/ToyasCard.lean, 'card_holds'). Laid BY PROGRAM, IN A SANDBOX (cutbox-door.mjs). By AI agents, Wed Nov 11 2026. No macro, syntax, notation, axiom, sorry.
-/
import Derived.Test.YtmgacikdgbedfaaDoorRows
import GoSem.ClaimSeven
namespace Go.Proofs.YtmgacikdgbedfaaDoor
namespace Rows

/-- THE TIED CARD OF 'similelaw08.ModpolyNames'. -/
def modpolyNamesCard : Claim7 := { stood := { row := modpolyNamesRow, standIns := [], harness := (true, "a3081dd2815d86055d8e33b4b3e096342b7737298425e673136dcface1b4d8fb"), looks := false }, kinds := [], alts := [], laidByText := true, laidKinds := [.data, .data], laidTests := true, laidLooks := .later }
def ModpolyNamesCardSaid : Prop := Claim7.holds Tryd.pinned (.plain (OpenSpec.ofChange modpolyNamesSpec)) modpolyNamesCard

/-- THE TIED CARD OF 'similelaw08.ModpolyFreshman'. -/
def modpolyFreshmanCard : Claim7 := { stood := { row := modpolyFreshmanRow, standIns := [], harness := (true, "a3081dd2815d86055d8e33b4b3e096342b7737298425e673136dcface1b4d8fb"), looks := false }, kinds := [], alts := [], laidByText := true, laidKinds := [.data, .data], laidTests := true, laidLooks := .later }
def ModpolyFreshmanCardSaid : Prop := Claim7.holds Tryd.pinned (.plain (OpenSpec.ofChange modpolyFreshmanSpec)) modpolyFreshmanCard

/-- THE TIED CARD OF 'similelaw08.ModpolyShifts'. -/
def modpolyShiftsCard : Claim7 := { stood := { row := modpolyShiftsRow, standIns := [], harness := (true, "a3081dd2815d86055d8e33b4b3e096342b7737298425e673136dcface1b4d8fb"), looks := false }, kinds := [], alts := [], laidByText := true, laidKinds := [.data, .data], laidTests := true, laidLooks := .later }
def ModpolyShiftsCardSaid : Prop := Claim7.holds Tryd.pinned (.plain (OpenSpec.ofChange modpolyShiftsSpec)) modpolyShiftsCard

/-- THE TIED CARD OF 'similelaw08.ModpolyNodes'. -/
def modpolyNodesCard : Claim7 := { stood := { row := modpolyNodesRow, standIns := [], harness := (true, "a3081dd2815d86055d8e33b4b3e096342b7737298425e673136dcface1b4d8fb"), looks := false }, kinds := [], alts := [], laidByText := true, laidKinds := [.data, .data], laidTests := true, laidLooks := .later }
def ModpolyNodesCardSaid : Prop := Claim7.holds Tryd.pinned (.plain (OpenSpec.ofChange modpolyNodesSpec)) modpolyNodesCard

/-- THE TIED CARD OF 'similelaw08.ModpolyMakes'. -/
def modpolyMakesCard : Claim7 := { stood := { row := modpolyMakesRow, standIns := [], harness := (true, "a3081dd2815d86055d8e33b4b3e096342b7737298425e673136dcface1b4d8fb"), looks := false }, kinds := [], alts := [], laidByText := true, laidKinds := [.data, .data], laidTests := true, laidLooks := .later }
def ModpolyMakesCardSaid : Prop := Claim7.holds Tryd.pinned (.plain (OpenSpec.ofChange modpolyMakesSpec)) modpolyMakesCard

/-- THE SECOND FORM's CARD OF 'similelaw08.ModpolyNames'. -/
def modpolyNamesUptoCard : Claim7 := { stood := { row := modpolyNamesUptoRow, standIns := [], harness := (true, "a3081dd2815d86055d8e33b4b3e096342b7737298425e673136dcface1b4d8fb"), looks := false }, kinds := [], alts := [], laidByText := true, laidKinds := [.data, .data], laidTests := true, laidLooks := .later }
def ModpolyNamesUptoCardSaid : Prop := Claim7.holds Tryd.pinned (.plain (OpenSpec.upto modpolyNamesSpec)) modpolyNamesUptoCard

/-- THE SECOND FORM's CARD OF 'similelaw08.ModpolyFreshman'. -/
def modpolyFreshmanUptoCard : Claim7 := { stood := { row := modpolyFreshmanUptoRow, standIns := [], harness := (true, "a3081dd2815d86055d8e33b4b3e096342b7737298425e673136dcface1b4d8fb"), looks := false }, kinds := [], alts := [], laidByText := true, laidKinds := [.data, .data], laidTests := true, laidLooks := .later }
def ModpolyFreshmanUptoCardSaid : Prop := Claim7.holds Tryd.pinned (.plain (OpenSpec.upto modpolyFreshmanSpec)) modpolyFreshmanUptoCard

/-- THE SECOND FORM's CARD OF 'similelaw08.ModpolyShifts'. -/
def modpolyShiftsUptoCard : Claim7 := { stood := { row := modpolyShiftsUptoRow, standIns := [], harness := (true, "a3081dd2815d86055d8e33b4b3e096342b7737298425e673136dcface1b4d8fb"), looks := false }, kinds := [], alts := [], laidByText := true, laidKinds := [.data, .data], laidTests := true, laidLooks := .later }
def ModpolyShiftsUptoCardSaid : Prop := Claim7.holds Tryd.pinned (.plain (OpenSpec.upto modpolyShiftsSpec)) modpolyShiftsUptoCard

/-- THE SECOND FORM's CARD OF 'similelaw08.ModpolyNodes'. -/
def modpolyNodesUptoCard : Claim7 := { stood := { row := modpolyNodesUptoRow, standIns := [], harness := (true, "a3081dd2815d86055d8e33b4b3e096342b7737298425e673136dcface1b4d8fb"), looks := false }, kinds := [], alts := [], laidByText := true, laidKinds := [.data, .data], laidTests := true, laidLooks := .later }
def ModpolyNodesUptoCardSaid : Prop := Claim7.holds Tryd.pinned (.plain (OpenSpec.upto modpolyNodesSpec)) modpolyNodesUptoCard

/-- THE SECOND FORM's CARD OF 'similelaw08.ModpolyMakes'. -/
def modpolyMakesUptoCard : Claim7 := { stood := { row := modpolyMakesUptoRow, standIns := [], harness := (true, "a3081dd2815d86055d8e33b4b3e096342b7737298425e673136dcface1b4d8fb"), looks := false }, kinds := [], alts := [], laidByText := true, laidKinds := [.data, .data], laidTests := true, laidLooks := .later }
def ModpolyMakesUptoCardSaid : Prop := Claim7.holds Tryd.pinned (.plain (OpenSpec.upto modpolyMakesSpec)) modpolyMakesUptoCard
end Rows
end Go.Proofs.YtmgacikdgbedfaaDoor
