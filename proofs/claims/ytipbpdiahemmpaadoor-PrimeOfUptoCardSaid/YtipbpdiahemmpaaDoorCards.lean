/-
  DERIVED. GIVEN WITH THE SEED: THE CARDS: each row of YtipbpdiahemmpaaDoorRows.lean that lists a variable, with what it lists TIED to the program's text (the seventh form; the later family's looks); each row that meets fmt, with fmt's text TOLD by the authors' own Lean function (tested against real Go, not proved from fmt's source: count such statements apart). THE CARD IS WHAT COUNTS. Prove the row's statement (the work); the ties are given (YtipbpdiahemmpaaDoorTie.lean); close each card by the builder's one call (the guide's Derived/Test/ToyasCard.lean, 'card_holds'). Laid BY PROGRAM, IN A SANDBOX (cutbox-door.mjs). By AI agents, Wed Nov 11 2026. No macro, syntax, notation, axiom, sorry.
-/
import Derived.Test.YtipbpdiahemmpaaDoorRows
import GoSem.ClaimSeven
namespace Go.Proofs.YtipbpdiahemmpaaDoor
namespace Rows

/-- THE TIED CARD OF 'similelaw04.PrimeOf'. -/
def primeOfCard : Claim7 := { stood := { row := primeOfRow, standIns := [], harness := (true, "548f5cdf74ae64117bd8f4b963789bf6647c65b8c24f6c835ece5df865c0116d"), looks := false }, kinds := [], alts := [], laidByText := true, laidKinds := [.data, .data], laidTests := true, laidLooks := .later }
def PrimeOfCardSaid : Prop := Claim7.holds Tryd.pinned (.plain (OpenSpec.ofChange primeOfSpec)) primeOfCard

/-- THE TIED CARD OF 'similelaw04.PrimeNone'. -/
def primeNoneCard : Claim7 := { stood := { row := primeNoneRow, standIns := [], harness := (true, "548f5cdf74ae64117bd8f4b963789bf6647c65b8c24f6c835ece5df865c0116d"), looks := false }, kinds := [], alts := [], laidByText := true, laidKinds := [.data, .data], laidTests := true, laidLooks := .later }
def PrimeNoneCardSaid : Prop := Claim7.holds Tryd.pinned (.plain (OpenSpec.ofChange primeNoneSpec)) primeNoneCard

/-- THE SECOND FORM's CARD OF 'similelaw04.PrimeOf'. -/
def primeOfUptoCard : Claim7 := { stood := { row := primeOfUptoRow, standIns := [], harness := (true, "548f5cdf74ae64117bd8f4b963789bf6647c65b8c24f6c835ece5df865c0116d"), looks := false }, kinds := [], alts := [], laidByText := true, laidKinds := [.data, .data], laidTests := true, laidLooks := .later }
def PrimeOfUptoCardSaid : Prop := Claim7.holds Tryd.pinned (.plain (OpenSpec.upto primeOfSpec)) primeOfUptoCard

/-- THE SECOND FORM's CARD OF 'similelaw04.PrimeNone'. -/
def primeNoneUptoCard : Claim7 := { stood := { row := primeNoneUptoRow, standIns := [], harness := (true, "548f5cdf74ae64117bd8f4b963789bf6647c65b8c24f6c835ece5df865c0116d"), looks := false }, kinds := [], alts := [], laidByText := true, laidKinds := [.data, .data], laidTests := true, laidLooks := .later }
def PrimeNoneUptoCardSaid : Prop := Claim7.holds Tryd.pinned (.plain (OpenSpec.upto primeNoneSpec)) primeNoneUptoCard
end Rows
end Go.Proofs.YtipbpdiahemmpaaDoor
