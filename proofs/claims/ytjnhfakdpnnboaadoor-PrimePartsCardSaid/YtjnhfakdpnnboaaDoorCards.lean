/-
  DERIVED. GIVEN WITH THE SEED: THE CARDS: each row of YtjnhfakdpnnboaaDoorRows.lean that lists a variable, with what it lists TIED to the program's text (the seventh form; the later family's looks); each row that meets fmt, with fmt's text TOLD by the authors' own Lean function (tested against real Go, not proved from fmt's source: count such statements apart). THE CARD IS WHAT COUNTS. Prove the row's statement (the work); the ties are given (YtjnhfakdpnnboaaDoorTie.lean); close each card by the builder's one call (the guide's Derived/Test/ToyasCard.lean, 'card_holds'). Laid BY PROGRAM, IN A SANDBOX (cutbox-door.mjs). By AI agents, Wed Nov 11 2026. No macro, syntax, notation, axiom, sorry.
-/
import Derived.Test.YtjnhfakdpnnboaaDoorRows
import GoSem.ClaimSeven
namespace Go.Proofs.YtjnhfakdpnnboaaDoor
namespace Rows

/-- THE TIED CARD OF 'similelaw04.PrimeNames'. -/
def primeNamesCard : Claim7 := { stood := { row := primeNamesRow, standIns := [], harness := (true, "f5a91718574089a62be26f1366806c60279152330695bf4e5edce03126bc6ca5"), looks := false }, kinds := [], alts := [], laidByText := true, laidKinds := [.data, .data], laidTests := true, laidLooks := .later }
def PrimeNamesCardSaid : Prop := Claim7.holds Tryd.pinned (.plain (OpenSpec.ofChange primeNamesSpec)) primeNamesCard

/-- THE TIED CARD OF 'similelaw04.PrimeRoots'. -/
def primeRootsCard : Claim7 := { stood := { row := primeRootsRow, standIns := [], harness := (true, "f5a91718574089a62be26f1366806c60279152330695bf4e5edce03126bc6ca5"), looks := false }, kinds := [], alts := [], laidByText := true, laidKinds := [.data, .data], laidTests := true, laidLooks := .later }
def PrimeRootsCardSaid : Prop := Claim7.holds Tryd.pinned (.plain (OpenSpec.ofChange primeRootsSpec)) primeRootsCard

/-- THE TIED CARD OF 'similelaw04.PrimePowers'. -/
def primePowersCard : Claim7 := { stood := { row := primePowersRow, standIns := [], harness := (true, "f5a91718574089a62be26f1366806c60279152330695bf4e5edce03126bc6ca5"), looks := false }, kinds := [], alts := [], laidByText := true, laidKinds := [.data, .data], laidTests := true, laidLooks := .later }
def PrimePowersCardSaid : Prop := Claim7.holds Tryd.pinned (.plain (OpenSpec.ofChange primePowersSpec)) primePowersCard

/-- THE TIED CARD OF 'similelaw04.PrimeFermat'. -/
def primeFermatCard : Claim7 := { stood := { row := primeFermatRow, standIns := [], harness := (true, "f5a91718574089a62be26f1366806c60279152330695bf4e5edce03126bc6ca5"), looks := false }, kinds := [], alts := [], laidByText := true, laidKinds := [.data, .data], laidTests := true, laidLooks := .later }
def PrimeFermatCardSaid : Prop := Claim7.holds Tryd.pinned (.plain (OpenSpec.ofChange primeFermatSpec)) primeFermatCard

/-- THE TIED CARD OF 'similelaw04.PrimeField'. -/
def primeFieldCard : Claim7 := { stood := { row := primeFieldRow, standIns := [], harness := (true, "f5a91718574089a62be26f1366806c60279152330695bf4e5edce03126bc6ca5"), looks := false }, kinds := [], alts := [], laidByText := true, laidKinds := [.data, .data], laidTests := true, laidLooks := .later }
def PrimeFieldCardSaid : Prop := Claim7.holds Tryd.pinned (.plain (OpenSpec.ofChange primeFieldSpec)) primeFieldCard

/-- THE TIED CARD OF 'similelaw04.PrimeLaws'. -/
def primeLawsCard : Claim7 := { stood := { row := primeLawsRow, standIns := [], harness := (true, "f5a91718574089a62be26f1366806c60279152330695bf4e5edce03126bc6ca5"), looks := false }, kinds := [], alts := [], laidByText := true, laidKinds := [.data, .data], laidTests := true, laidLooks := .later }
def PrimeLawsCardSaid : Prop := Claim7.holds Tryd.pinned (.plain (OpenSpec.ofChange primeLawsSpec)) primeLawsCard

/-- THE TIED CARD OF 'similelaw04.PrimeIs'. -/
def primeIsCard : Claim7 := { stood := { row := primeIsRow, standIns := [], harness := (true, "f5a91718574089a62be26f1366806c60279152330695bf4e5edce03126bc6ca5"), looks := false }, kinds := [], alts := [], laidByText := true, laidKinds := [.data, .data], laidTests := true, laidLooks := .later }
def PrimeIsCardSaid : Prop := Claim7.holds Tryd.pinned (.plain (OpenSpec.ofChange primeIsSpec)) primeIsCard

/-- THE TIED CARD OF 'similelaw04.PrimeLists'. -/
def primeListsCard : Claim7 := { stood := { row := primeListsRow, standIns := [], harness := (true, "f5a91718574089a62be26f1366806c60279152330695bf4e5edce03126bc6ca5"), looks := false }, kinds := [], alts := [], laidByText := true, laidKinds := [.data, .data], laidTests := true, laidLooks := .later }
def PrimeListsCardSaid : Prop := Claim7.holds Tryd.pinned (.plain (OpenSpec.ofChange primeListsSpec)) primeListsCard

/-- THE TIED CARD OF 'similelaw04.PrimePeriods'. -/
def primePeriodsCard : Claim7 := { stood := { row := primePeriodsRow, standIns := [], harness := (true, "f5a91718574089a62be26f1366806c60279152330695bf4e5edce03126bc6ca5"), looks := false }, kinds := [], alts := [], laidByText := true, laidKinds := [.data, .data], laidTests := true, laidLooks := .later }
def PrimePeriodsCardSaid : Prop := Claim7.holds Tryd.pinned (.plain (OpenSpec.ofChange primePeriodsSpec)) primePeriodsCard

/-- THE TIED CARD OF 'similelaw04.PrimeOrders'. -/
def primeOrdersCard : Claim7 := { stood := { row := primeOrdersRow, standIns := [], harness := (true, "f5a91718574089a62be26f1366806c60279152330695bf4e5edce03126bc6ca5"), looks := false }, kinds := [], alts := [], laidByText := true, laidKinds := [.data, .data], laidTests := true, laidLooks := .later }
def PrimeOrdersCardSaid : Prop := Claim7.holds Tryd.pinned (.plain (OpenSpec.ofChange primeOrdersSpec)) primeOrdersCard

/-- THE TIED CARD OF 'similelaw04.PrimeFactors'. -/
def primeFactorsCard : Claim7 := { stood := { row := primeFactorsRow, standIns := [], harness := (true, "f5a91718574089a62be26f1366806c60279152330695bf4e5edce03126bc6ca5"), looks := false }, kinds := [], alts := [], laidByText := true, laidKinds := [.data, .data], laidTests := true, laidLooks := .later }
def PrimeFactorsCardSaid : Prop := Claim7.holds Tryd.pinned (.plain (OpenSpec.ofChange primeFactorsSpec)) primeFactorsCard

/-- THE TIED CARD OF 'similelaw04.PrimeParts'. -/
def primePartsCard : Claim7 := { stood := { row := primePartsRow, standIns := [], harness := (true, "f5a91718574089a62be26f1366806c60279152330695bf4e5edce03126bc6ca5"), looks := false }, kinds := [], alts := [], laidByText := true, laidKinds := [.data, .data], laidTests := true, laidLooks := .later }
def PrimePartsCardSaid : Prop := Claim7.holds Tryd.pinned (.plain (OpenSpec.ofChange primePartsSpec)) primePartsCard

/-- THE SECOND FORM's CARD OF 'similelaw04.PrimeNames'. -/
def primeNamesUptoCard : Claim7 := { stood := { row := primeNamesUptoRow, standIns := [], harness := (true, "f5a91718574089a62be26f1366806c60279152330695bf4e5edce03126bc6ca5"), looks := false }, kinds := [], alts := [], laidByText := true, laidKinds := [.data, .data], laidTests := true, laidLooks := .later }
def PrimeNamesUptoCardSaid : Prop := Claim7.holds Tryd.pinned (.plain (OpenSpec.upto primeNamesSpec)) primeNamesUptoCard

/-- THE SECOND FORM's CARD OF 'similelaw04.PrimeRoots'. -/
def primeRootsUptoCard : Claim7 := { stood := { row := primeRootsUptoRow, standIns := [], harness := (true, "f5a91718574089a62be26f1366806c60279152330695bf4e5edce03126bc6ca5"), looks := false }, kinds := [], alts := [], laidByText := true, laidKinds := [.data, .data], laidTests := true, laidLooks := .later }
def PrimeRootsUptoCardSaid : Prop := Claim7.holds Tryd.pinned (.plain (OpenSpec.upto primeRootsSpec)) primeRootsUptoCard

/-- THE SECOND FORM's CARD OF 'similelaw04.PrimePowers'. -/
def primePowersUptoCard : Claim7 := { stood := { row := primePowersUptoRow, standIns := [], harness := (true, "f5a91718574089a62be26f1366806c60279152330695bf4e5edce03126bc6ca5"), looks := false }, kinds := [], alts := [], laidByText := true, laidKinds := [.data, .data], laidTests := true, laidLooks := .later }
def PrimePowersUptoCardSaid : Prop := Claim7.holds Tryd.pinned (.plain (OpenSpec.upto primePowersSpec)) primePowersUptoCard

/-- THE SECOND FORM's CARD OF 'similelaw04.PrimeFermat'. -/
def primeFermatUptoCard : Claim7 := { stood := { row := primeFermatUptoRow, standIns := [], harness := (true, "f5a91718574089a62be26f1366806c60279152330695bf4e5edce03126bc6ca5"), looks := false }, kinds := [], alts := [], laidByText := true, laidKinds := [.data, .data], laidTests := true, laidLooks := .later }
def PrimeFermatUptoCardSaid : Prop := Claim7.holds Tryd.pinned (.plain (OpenSpec.upto primeFermatSpec)) primeFermatUptoCard

/-- THE SECOND FORM's CARD OF 'similelaw04.PrimeField'. -/
def primeFieldUptoCard : Claim7 := { stood := { row := primeFieldUptoRow, standIns := [], harness := (true, "f5a91718574089a62be26f1366806c60279152330695bf4e5edce03126bc6ca5"), looks := false }, kinds := [], alts := [], laidByText := true, laidKinds := [.data, .data], laidTests := true, laidLooks := .later }
def PrimeFieldUptoCardSaid : Prop := Claim7.holds Tryd.pinned (.plain (OpenSpec.upto primeFieldSpec)) primeFieldUptoCard

/-- THE SECOND FORM's CARD OF 'similelaw04.PrimeLaws'. -/
def primeLawsUptoCard : Claim7 := { stood := { row := primeLawsUptoRow, standIns := [], harness := (true, "f5a91718574089a62be26f1366806c60279152330695bf4e5edce03126bc6ca5"), looks := false }, kinds := [], alts := [], laidByText := true, laidKinds := [.data, .data], laidTests := true, laidLooks := .later }
def PrimeLawsUptoCardSaid : Prop := Claim7.holds Tryd.pinned (.plain (OpenSpec.upto primeLawsSpec)) primeLawsUptoCard

/-- THE SECOND FORM's CARD OF 'similelaw04.PrimeIs'. -/
def primeIsUptoCard : Claim7 := { stood := { row := primeIsUptoRow, standIns := [], harness := (true, "f5a91718574089a62be26f1366806c60279152330695bf4e5edce03126bc6ca5"), looks := false }, kinds := [], alts := [], laidByText := true, laidKinds := [.data, .data], laidTests := true, laidLooks := .later }
def PrimeIsUptoCardSaid : Prop := Claim7.holds Tryd.pinned (.plain (OpenSpec.upto primeIsSpec)) primeIsUptoCard

/-- THE SECOND FORM's CARD OF 'similelaw04.PrimeLists'. -/
def primeListsUptoCard : Claim7 := { stood := { row := primeListsUptoRow, standIns := [], harness := (true, "f5a91718574089a62be26f1366806c60279152330695bf4e5edce03126bc6ca5"), looks := false }, kinds := [], alts := [], laidByText := true, laidKinds := [.data, .data], laidTests := true, laidLooks := .later }
def PrimeListsUptoCardSaid : Prop := Claim7.holds Tryd.pinned (.plain (OpenSpec.upto primeListsSpec)) primeListsUptoCard

/-- THE SECOND FORM's CARD OF 'similelaw04.PrimePeriods'. -/
def primePeriodsUptoCard : Claim7 := { stood := { row := primePeriodsUptoRow, standIns := [], harness := (true, "f5a91718574089a62be26f1366806c60279152330695bf4e5edce03126bc6ca5"), looks := false }, kinds := [], alts := [], laidByText := true, laidKinds := [.data, .data], laidTests := true, laidLooks := .later }
def PrimePeriodsUptoCardSaid : Prop := Claim7.holds Tryd.pinned (.plain (OpenSpec.upto primePeriodsSpec)) primePeriodsUptoCard

/-- THE SECOND FORM's CARD OF 'similelaw04.PrimeOrders'. -/
def primeOrdersUptoCard : Claim7 := { stood := { row := primeOrdersUptoRow, standIns := [], harness := (true, "f5a91718574089a62be26f1366806c60279152330695bf4e5edce03126bc6ca5"), looks := false }, kinds := [], alts := [], laidByText := true, laidKinds := [.data, .data], laidTests := true, laidLooks := .later }
def PrimeOrdersUptoCardSaid : Prop := Claim7.holds Tryd.pinned (.plain (OpenSpec.upto primeOrdersSpec)) primeOrdersUptoCard

/-- THE SECOND FORM's CARD OF 'similelaw04.PrimeFactors'. -/
def primeFactorsUptoCard : Claim7 := { stood := { row := primeFactorsUptoRow, standIns := [], harness := (true, "f5a91718574089a62be26f1366806c60279152330695bf4e5edce03126bc6ca5"), looks := false }, kinds := [], alts := [], laidByText := true, laidKinds := [.data, .data], laidTests := true, laidLooks := .later }
def PrimeFactorsUptoCardSaid : Prop := Claim7.holds Tryd.pinned (.plain (OpenSpec.upto primeFactorsSpec)) primeFactorsUptoCard

/-- THE SECOND FORM's CARD OF 'similelaw04.PrimeParts'. -/
def primePartsUptoCard : Claim7 := { stood := { row := primePartsUptoRow, standIns := [], harness := (true, "f5a91718574089a62be26f1366806c60279152330695bf4e5edce03126bc6ca5"), looks := false }, kinds := [], alts := [], laidByText := true, laidKinds := [.data, .data], laidTests := true, laidLooks := .later }
def PrimePartsUptoCardSaid : Prop := Claim7.holds Tryd.pinned (.plain (OpenSpec.upto primePartsSpec)) primePartsUptoCard
end Rows
end Go.Proofs.YtjnhfakdpnnboaaDoor
