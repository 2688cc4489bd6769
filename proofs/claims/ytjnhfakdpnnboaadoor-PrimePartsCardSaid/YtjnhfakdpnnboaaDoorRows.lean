/-
  NARROWER THAN 'FOR EVERY INPUT', by the rows' own cells (each row's printed sentence says how): PrimeNames: laid · PrimeRoots: laid · PrimePowers: laid · PrimeFermat: laid · PrimeField: laid · PrimeLaws: laid · PrimeIs: laid · PrimeLists: laid · PrimePeriods: laid · PrimeOrders: laid · PrimeFactors: laid · PrimeParts: laid.
  DERIVED. THE GIVEN ROWS OF THIS SEAT. 12 by the template 'for every input the law returns true; each argument reads behind the call as it read before'; 0 by the template 'total and deterministic' (their statements: YtjnhfakdpnnboaaDoorTotals.lean).
  GIVEN WITH THE SEED: the statements are not yours to turn. If you find one false, say at which input.
  Laid BY PROGRAM, IN A SANDBOX (cutbox-rows.mjs): the forced cells as the released guide's own fill.sh prints them over the translation 4675185694e0c8b7… (all of the seat's roots in one cut). By AI agents, Wed Nov 11 2026. No macro, syntax, notation, axiom, sorry.
-/
import Derived.Test.YtjnhfakdpnnboaaDoorChecked
import GoSem.Claim
import GoSem.ClaimJoined
import GoSem.ClaimMapViews
import Derived.JoinedTies
import Derived.KernelRfl
namespace Go.Proofs.YtjnhfakdpnnboaaDoor
/- THE CELL 'sum', in the pinned program and in every row, IS THE sha256 OF THE DUMP (.gsa) THAT YtjnhfakdpnnboaaDoorProg.lean LOADS. Nothing in Lean hashes anything: it is a label: what it is worth is what the hold of that sum in a sandbox is worth. -/
noncomputable def Tryd.pinned : Pinned := { name := "ytjnhfakdpnnboaadoor", sum := "4675185694e0c8b75a3f6f98bc1bd1790cb70b0b9ed8c0a0d6107848de17ad28", checked := Tryd.checked }
namespace Rows
def none {H : Type} : Left H := { results := [], args := [] }

/- WHAT THE LISTED PACKAGE-LEVEL VARIABLES READ AS WHEN THE CALL BEGINS. Each datum BY PROGRAM (the guide's laid-datum.mjs) off the statement by which the dump's own 'gosem.cut.vars' lays the variable. In a bare row this is a premise. The card (YtjnhfakdpnnboaaDoorCards.lean) ties it to the program's text. -/
def laid_math_bits_deBruijn32tab {H : Type} : DataW H := .agg [.lit (.int .u8 0), .lit (.int .u8 1), .lit (.int .u8 28), .lit (.int .u8 2), .lit (.int .u8 29), .lit (.int .u8 14), .lit (.int .u8 24), .lit (.int .u8 3), .lit (.int .u8 30), .lit (.int .u8 22), .lit (.int .u8 20), .lit (.int .u8 15), .lit (.int .u8 25), .lit (.int .u8 17), .lit (.int .u8 4), .lit (.int .u8 8), .lit (.int .u8 31), .lit (.int .u8 27), .lit (.int .u8 13), .lit (.int .u8 23), .lit (.int .u8 21), .lit (.int .u8 19), .lit (.int .u8 16), .lit (.int .u8 7), .lit (.int .u8 26), .lit (.int .u8 12), .lit (.int .u8 18), .lit (.int .u8 6), .lit (.int .u8 11), .lit (.int .u8 5), .lit (.int .u8 10), .lit (.int .u8 9)]
def laid_simile_prime_bases {H : Type} : DataW H := .agg [.lit (.int .u32 2), .lit (.int .u32 7), .lit (.int .u32 61)]

/-- 'similelaw04.PrimeNames': WHATEVER THE INPUT: true; the input reads as it did. -/
def primeNamesSpec : ChangeSpec := { name := "primeNames", fn := fun _ => fun
  | [] => { results := [.lit (.bool true)], args := [] }
  | _ => none }
def primeNamesRow : OpenClaim := { program := "ytjnhfakdpnnboaadoor", sum := "4675185694e0c8b75a3f6f98bc1bd1790cb70b0b9ed8c0a0d6107848de17ad28", func := "simile/similelaw04.PrimeNames", spec := "primeNames", recurses := true, named := ["simile/prime.bases", "math/bits.deBruijn32tab"], apart := false, laid := [("math/bits.deBruijn32tab", laid_math_bits_deBruijn32tab), ("simile/prime.bases", laid_simile_prime_bases)] }
def PrimeNamesSaid : Prop := primeNamesRow.holds Tryd.pinned (OpenSpec.ofChange primeNamesSpec)

/-- ITS FALSE NEIGHBOUR: 'it returns false'. Refute it at one input. -/
def primeNamesWrong : ChangeSpec := { name := "primeNames", fn := fun _ => fun
  | [] => { results := [.lit (.bool false)], args := [] }
  | _ => none }
def PrimeNamesWrongFalsely : Prop := primeNamesRow.holds Tryd.pinned (OpenSpec.ofChange primeNamesWrong)

/-- 'similelaw04.PrimeRoots': WHATEVER THE INPUT: true; the input reads as it did. -/
def primeRootsSpec : ChangeSpec := { name := "primeRoots", fn := fun _ => fun
  | [d1, d2] => { results := [.lit (.bool true)], args := [d1, d2] }
  | _ => none }
def primeRootsRow : OpenClaim := { program := "ytjnhfakdpnnboaadoor", sum := "4675185694e0c8b75a3f6f98bc1bd1790cb70b0b9ed8c0a0d6107848de17ad28", func := "simile/similelaw04.PrimeRoots", spec := "primeRoots", recurses := true, named := ["simile/prime.bases", "math/bits.deBruijn32tab"], apart := false, laid := [("math/bits.deBruijn32tab", laid_math_bits_deBruijn32tab), ("simile/prime.bases", laid_simile_prime_bases)] }
def PrimeRootsSaid : Prop := primeRootsRow.holds Tryd.pinned (OpenSpec.ofChange primeRootsSpec)

/-- ITS FALSE NEIGHBOUR: 'it returns false'. Refute it at one input. -/
def primeRootsWrong : ChangeSpec := { name := "primeRoots", fn := fun _ => fun
  | [d1, d2] => { results := [.lit (.bool false)], args := [d1, d2] }
  | _ => none }
def PrimeRootsWrongFalsely : Prop := primeRootsRow.holds Tryd.pinned (OpenSpec.ofChange primeRootsWrong)

/-- 'similelaw04.PrimePowers': WHATEVER THE INPUT: true; the input reads as it did. -/
def primePowersSpec : ChangeSpec := { name := "primePowers", fn := fun _ => fun
  | [d1, d2, d3] => { results := [.lit (.bool true)], args := [d1, d2, d3] }
  | _ => none }
def primePowersRow : OpenClaim := { program := "ytjnhfakdpnnboaadoor", sum := "4675185694e0c8b75a3f6f98bc1bd1790cb70b0b9ed8c0a0d6107848de17ad28", func := "simile/similelaw04.PrimePowers", spec := "primePowers", unfollowed := true, recurses := true, named := ["simile/prime.bases", "math/bits.deBruijn32tab"], apart := false, laid := [("math/bits.deBruijn32tab", laid_math_bits_deBruijn32tab), ("simile/prime.bases", laid_simile_prime_bases)] }
def PrimePowersSaid : Prop := primePowersRow.holds Tryd.pinned (OpenSpec.ofChange primePowersSpec)

/-- ITS FALSE NEIGHBOUR: 'it returns false'. Refute it at one input. -/
def primePowersWrong : ChangeSpec := { name := "primePowers", fn := fun _ => fun
  | [d1, d2, d3] => { results := [.lit (.bool false)], args := [d1, d2, d3] }
  | _ => none }
def PrimePowersWrongFalsely : Prop := primePowersRow.holds Tryd.pinned (OpenSpec.ofChange primePowersWrong)

/-- 'similelaw04.PrimeFermat': WHATEVER THE INPUT: true; the input reads as it did. -/
def primeFermatSpec : ChangeSpec := { name := "primeFermat", fn := fun _ => fun
  | [d1, d2] => { results := [.lit (.bool true)], args := [d1, d2] }
  | _ => none }
def primeFermatRow : OpenClaim := { program := "ytjnhfakdpnnboaadoor", sum := "4675185694e0c8b75a3f6f98bc1bd1790cb70b0b9ed8c0a0d6107848de17ad28", func := "simile/similelaw04.PrimeFermat", spec := "primeFermat", unfollowed := true, recurses := true, named := ["simile/prime.bases", "math/bits.deBruijn32tab"], apart := false, laid := [("math/bits.deBruijn32tab", laid_math_bits_deBruijn32tab), ("simile/prime.bases", laid_simile_prime_bases)] }
def PrimeFermatSaid : Prop := primeFermatRow.holds Tryd.pinned (OpenSpec.ofChange primeFermatSpec)

/-- ITS FALSE NEIGHBOUR: 'it returns false'. Refute it at one input. -/
def primeFermatWrong : ChangeSpec := { name := "primeFermat", fn := fun _ => fun
  | [d1, d2] => { results := [.lit (.bool false)], args := [d1, d2] }
  | _ => none }
def PrimeFermatWrongFalsely : Prop := primeFermatRow.holds Tryd.pinned (OpenSpec.ofChange primeFermatWrong)

/-- 'similelaw04.PrimeField': WHATEVER THE INPUT: true; the input reads as it did. -/
def primeFieldSpec : ChangeSpec := { name := "primeField", fn := fun _ => fun
  | [d1, d2, d3] => { results := [.lit (.bool true)], args := [d1, d2, d3] }
  | _ => none }
def primeFieldRow : OpenClaim := { program := "ytjnhfakdpnnboaadoor", sum := "4675185694e0c8b75a3f6f98bc1bd1790cb70b0b9ed8c0a0d6107848de17ad28", func := "simile/similelaw04.PrimeField", spec := "primeField", unfollowed := true, recurses := true, named := ["simile/prime.bases", "math/bits.deBruijn32tab"], apart := false, laid := [("math/bits.deBruijn32tab", laid_math_bits_deBruijn32tab), ("simile/prime.bases", laid_simile_prime_bases)] }
def PrimeFieldSaid : Prop := primeFieldRow.holds Tryd.pinned (OpenSpec.ofChange primeFieldSpec)

/-- ITS FALSE NEIGHBOUR: 'it returns false'. Refute it at one input. -/
def primeFieldWrong : ChangeSpec := { name := "primeField", fn := fun _ => fun
  | [d1, d2, d3] => { results := [.lit (.bool false)], args := [d1, d2, d3] }
  | _ => none }
def PrimeFieldWrongFalsely : Prop := primeFieldRow.holds Tryd.pinned (OpenSpec.ofChange primeFieldWrong)

/-- 'similelaw04.PrimeLaws': WHATEVER THE INPUT: true; the input reads as it did. -/
def primeLawsSpec : ChangeSpec := { name := "primeLaws", fn := fun _ => fun
  | [d] => { results := [.lit (.bool true)], args := [d] }
  | _ => none }
def primeLawsRow : OpenClaim := { program := "ytjnhfakdpnnboaadoor", sum := "4675185694e0c8b75a3f6f98bc1bd1790cb70b0b9ed8c0a0d6107848de17ad28", func := "simile/similelaw04.PrimeLaws", spec := "primeLaws", unfollowed := true, recurses := true, named := ["simile/prime.bases", "math/bits.deBruijn32tab"], apart := false, laid := [("math/bits.deBruijn32tab", laid_math_bits_deBruijn32tab), ("simile/prime.bases", laid_simile_prime_bases)] }
def PrimeLawsSaid : Prop := primeLawsRow.holds Tryd.pinned (OpenSpec.ofChange primeLawsSpec)

/-- ITS FALSE NEIGHBOUR: 'it returns false'. Refute it at one input. -/
def primeLawsWrong : ChangeSpec := { name := "primeLaws", fn := fun _ => fun
  | [d] => { results := [.lit (.bool false)], args := [d] }
  | _ => none }
def PrimeLawsWrongFalsely : Prop := primeLawsRow.holds Tryd.pinned (OpenSpec.ofChange primeLawsWrong)

/-- 'similelaw04.PrimeIs': WHATEVER THE INPUT: true; the input reads as it did. -/
def primeIsSpec : ChangeSpec := { name := "primeIs", fn := fun _ => fun
  | [d] => { results := [.lit (.bool true)], args := [d] }
  | _ => none }
def primeIsRow : OpenClaim := { program := "ytjnhfakdpnnboaadoor", sum := "4675185694e0c8b75a3f6f98bc1bd1790cb70b0b9ed8c0a0d6107848de17ad28", func := "simile/similelaw04.PrimeIs", spec := "primeIs", unfollowed := true, recurses := true, named := ["simile/prime.bases", "math/bits.deBruijn32tab"], apart := false, laid := [("math/bits.deBruijn32tab", laid_math_bits_deBruijn32tab), ("simile/prime.bases", laid_simile_prime_bases)] }
def PrimeIsSaid : Prop := primeIsRow.holds Tryd.pinned (OpenSpec.ofChange primeIsSpec)

/-- ITS FALSE NEIGHBOUR: 'it returns false'. Refute it at one input. -/
def primeIsWrong : ChangeSpec := { name := "primeIs", fn := fun _ => fun
  | [d] => { results := [.lit (.bool false)], args := [d] }
  | _ => none }
def PrimeIsWrongFalsely : Prop := primeIsRow.holds Tryd.pinned (OpenSpec.ofChange primeIsWrong)

/-- 'similelaw04.PrimeLists': WHATEVER THE INPUT: true; the input reads as it did. -/
def primeListsSpec : ChangeSpec := { name := "primeLists", fn := fun _ => fun
  | [d1, d2, d3] => { results := [.lit (.bool true)], args := [d1, d2, d3] }
  | _ => none }
def primeListsRow : OpenClaim := { program := "ytjnhfakdpnnboaadoor", sum := "4675185694e0c8b75a3f6f98bc1bd1790cb70b0b9ed8c0a0d6107848de17ad28", func := "simile/similelaw04.PrimeLists", spec := "primeLists", unfollowed := true, recurses := true, named := ["simile/prime.bases", "math/bits.deBruijn32tab"], apart := false, laid := [("math/bits.deBruijn32tab", laid_math_bits_deBruijn32tab), ("simile/prime.bases", laid_simile_prime_bases)] }
def PrimeListsSaid : Prop := primeListsRow.holds Tryd.pinned (OpenSpec.ofChange primeListsSpec)

/-- ITS FALSE NEIGHBOUR: 'it returns false'. Refute it at one input. -/
def primeListsWrong : ChangeSpec := { name := "primeLists", fn := fun _ => fun
  | [d1, d2, d3] => { results := [.lit (.bool false)], args := [d1, d2, d3] }
  | _ => none }
def PrimeListsWrongFalsely : Prop := primeListsRow.holds Tryd.pinned (OpenSpec.ofChange primeListsWrong)

/-- 'similelaw04.PrimePeriods': WHATEVER THE INPUT: true; the input reads as it did. -/
def primePeriodsSpec : ChangeSpec := { name := "primePeriods", fn := fun _ => fun
  | [d1, d2, d3] => { results := [.lit (.bool true)], args := [d1, d2, d3] }
  | _ => none }
def primePeriodsRow : OpenClaim := { program := "ytjnhfakdpnnboaadoor", sum := "4675185694e0c8b75a3f6f98bc1bd1790cb70b0b9ed8c0a0d6107848de17ad28", func := "simile/similelaw04.PrimePeriods", spec := "primePeriods", unfollowed := true, recurses := true, named := ["simile/prime.bases", "math/bits.deBruijn32tab"], apart := false, laid := [("math/bits.deBruijn32tab", laid_math_bits_deBruijn32tab), ("simile/prime.bases", laid_simile_prime_bases)] }
def PrimePeriodsSaid : Prop := primePeriodsRow.holds Tryd.pinned (OpenSpec.ofChange primePeriodsSpec)

/-- ITS FALSE NEIGHBOUR: 'it returns false'. Refute it at one input. -/
def primePeriodsWrong : ChangeSpec := { name := "primePeriods", fn := fun _ => fun
  | [d1, d2, d3] => { results := [.lit (.bool false)], args := [d1, d2, d3] }
  | _ => none }
def PrimePeriodsWrongFalsely : Prop := primePeriodsRow.holds Tryd.pinned (OpenSpec.ofChange primePeriodsWrong)

/-- 'similelaw04.PrimeOrders': WHATEVER THE INPUT: true; the input reads as it did. -/
def primeOrdersSpec : ChangeSpec := { name := "primeOrders", fn := fun _ => fun
  | [d1, d2] => { results := [.lit (.bool true)], args := [d1, d2] }
  | _ => none }
def primeOrdersRow : OpenClaim := { program := "ytjnhfakdpnnboaadoor", sum := "4675185694e0c8b75a3f6f98bc1bd1790cb70b0b9ed8c0a0d6107848de17ad28", func := "simile/similelaw04.PrimeOrders", spec := "primeOrders", recurses := true, named := ["simile/prime.bases", "math/bits.deBruijn32tab"], apart := false, laid := [("math/bits.deBruijn32tab", laid_math_bits_deBruijn32tab), ("simile/prime.bases", laid_simile_prime_bases)] }
def PrimeOrdersSaid : Prop := primeOrdersRow.holds Tryd.pinned (OpenSpec.ofChange primeOrdersSpec)

/-- ITS FALSE NEIGHBOUR: 'it returns false'. Refute it at one input. -/
def primeOrdersWrong : ChangeSpec := { name := "primeOrders", fn := fun _ => fun
  | [d1, d2] => { results := [.lit (.bool false)], args := [d1, d2] }
  | _ => none }
def PrimeOrdersWrongFalsely : Prop := primeOrdersRow.holds Tryd.pinned (OpenSpec.ofChange primeOrdersWrong)

/-- 'similelaw04.PrimeFactors': WHATEVER THE INPUT: true; the input reads as it did. -/
def primeFactorsSpec : ChangeSpec := { name := "primeFactors", fn := fun _ => fun
  | [d] => { results := [.lit (.bool true)], args := [d] }
  | _ => none }
def primeFactorsRow : OpenClaim := { program := "ytjnhfakdpnnboaadoor", sum := "4675185694e0c8b75a3f6f98bc1bd1790cb70b0b9ed8c0a0d6107848de17ad28", func := "simile/similelaw04.PrimeFactors", spec := "primeFactors", recurses := true, named := ["simile/prime.bases", "math/bits.deBruijn32tab"], apart := false, laid := [("math/bits.deBruijn32tab", laid_math_bits_deBruijn32tab), ("simile/prime.bases", laid_simile_prime_bases)] }
def PrimeFactorsSaid : Prop := primeFactorsRow.holds Tryd.pinned (OpenSpec.ofChange primeFactorsSpec)

/-- ITS FALSE NEIGHBOUR: 'it returns false'. Refute it at one input. -/
def primeFactorsWrong : ChangeSpec := { name := "primeFactors", fn := fun _ => fun
  | [d] => { results := [.lit (.bool false)], args := [d] }
  | _ => none }
def PrimeFactorsWrongFalsely : Prop := primeFactorsRow.holds Tryd.pinned (OpenSpec.ofChange primeFactorsWrong)

/-- 'similelaw04.PrimeParts': WHATEVER THE INPUT: true; the input reads as it did. -/
def primePartsSpec : ChangeSpec := { name := "primeParts", fn := fun _ => fun
  | [d] => { results := [.lit (.bool true)], args := [d] }
  | _ => none }
def primePartsRow : OpenClaim := { program := "ytjnhfakdpnnboaadoor", sum := "4675185694e0c8b75a3f6f98bc1bd1790cb70b0b9ed8c0a0d6107848de17ad28", func := "simile/similelaw04.PrimeParts", spec := "primeParts", recurses := true, named := ["simile/prime.bases", "math/bits.deBruijn32tab"], apart := false, laid := [("math/bits.deBruijn32tab", laid_math_bits_deBruijn32tab), ("simile/prime.bases", laid_simile_prime_bases)] }
def PrimePartsSaid : Prop := primePartsRow.holds Tryd.pinned (OpenSpec.ofChange primePartsSpec)

/-- ITS FALSE NEIGHBOUR: 'it returns false'. Refute it at one input. -/
def primePartsWrong : ChangeSpec := { name := "primeParts", fn := fun _ => fun
  | [d] => { results := [.lit (.bool false)], args := [d] }
  | _ => none }
def PrimePartsWrongFalsely : Prop := primePartsRow.holds Tryd.pinned (OpenSpec.ofChange primePartsWrong)

/- THE SECOND FORM. 'bulk': how many values and letters a reading holds, each counted each time it is reached (what is shared counts as often as it is met; a slice's spare places count too). A statement '..UptoSaid' is the law's where the arguments, and the package variables that the reading takes, are together of bulk at most 1048576: NARROWER than '..Said'. Prove '..Said' where nothing that the law and all that it calls make is longer than what came in: it says more and counts as full. Else prove '..UptoSaid'. A law counts once. -/
mutual
def uptoBulk {H : Type} : DataW H → Nat
  | .lit (.string bytes) => bytes.length + 1
  | .lit _ => 1
  | .nil => 1
  | .ptr d => uptoBulk d + 1
  | .slice elems spare => uptoBulkAll elems + uptoBulkAll spare + 1
  | .agg parts => uptoBulkAll parts + 1
  | .iface _ d => uptoBulk d + 1
  | .map entries => uptoBulkEntries entries + 1
  | .held _ => 1
def uptoBulkAll {H : Type} : List (DataW H) → Nat
  | [] => 0
  | d :: r => uptoBulk d + uptoBulkAll r
def uptoBulkEntries {H : Type} : List (Lit × DataW H) → Nat
  | [] => 0
  | x :: r => uptoBulkEntry x + uptoBulkEntries r
def uptoBulkEntry {H : Type} : Lit × DataW H → Nat
  | (.string bytes, d) => bytes.length + uptoBulk d + 1
  | (_, d) => uptoBulk d + 1
 end
def uptoSmall : (H : Type) → List (DataW H) → Bool := fun _ ds => decide (uptoBulkAll ds ≤ 1048576)
def OpenSpec.upto (s : _root_.Go.ChangeSpec) : _root_.Go.OpenSpec := { _root_.Go.OpenSpec.ofChange s with cond := some uptoSmall }

/-- 'similelaw04.PrimeNames', WHERE WHAT IT READS IS OF BULK AT MOST 1048576: true; the input reads as it did. -/
def primeNamesUptoRow : OpenClaim := { program := "ytjnhfakdpnnboaadoor", sum := "4675185694e0c8b75a3f6f98bc1bd1790cb70b0b9ed8c0a0d6107848de17ad28", func := "simile/similelaw04.PrimeNames", spec := "primeNames", recurses := true, named := ["simile/prime.bases", "math/bits.deBruijn32tab"], apart := false, laid := [("math/bits.deBruijn32tab", laid_math_bits_deBruijn32tab), ("simile/prime.bases", laid_simile_prime_bases)], narrowed := true }
def PrimeNamesUptoSaid : Prop := primeNamesUptoRow.holds Tryd.pinned (OpenSpec.upto primeNamesSpec)

/-- 'similelaw04.PrimeRoots', WHERE WHAT IT READS IS OF BULK AT MOST 1048576: true; the input reads as it did. -/
def primeRootsUptoRow : OpenClaim := { program := "ytjnhfakdpnnboaadoor", sum := "4675185694e0c8b75a3f6f98bc1bd1790cb70b0b9ed8c0a0d6107848de17ad28", func := "simile/similelaw04.PrimeRoots", spec := "primeRoots", recurses := true, named := ["simile/prime.bases", "math/bits.deBruijn32tab"], apart := false, laid := [("math/bits.deBruijn32tab", laid_math_bits_deBruijn32tab), ("simile/prime.bases", laid_simile_prime_bases)], narrowed := true }
def PrimeRootsUptoSaid : Prop := primeRootsUptoRow.holds Tryd.pinned (OpenSpec.upto primeRootsSpec)

/-- 'similelaw04.PrimePowers', WHERE WHAT IT READS IS OF BULK AT MOST 1048576: true; the input reads as it did. -/
def primePowersUptoRow : OpenClaim := { program := "ytjnhfakdpnnboaadoor", sum := "4675185694e0c8b75a3f6f98bc1bd1790cb70b0b9ed8c0a0d6107848de17ad28", func := "simile/similelaw04.PrimePowers", spec := "primePowers", unfollowed := true, recurses := true, named := ["simile/prime.bases", "math/bits.deBruijn32tab"], apart := false, laid := [("math/bits.deBruijn32tab", laid_math_bits_deBruijn32tab), ("simile/prime.bases", laid_simile_prime_bases)], narrowed := true }
def PrimePowersUptoSaid : Prop := primePowersUptoRow.holds Tryd.pinned (OpenSpec.upto primePowersSpec)

/-- 'similelaw04.PrimeFermat', WHERE WHAT IT READS IS OF BULK AT MOST 1048576: true; the input reads as it did. -/
def primeFermatUptoRow : OpenClaim := { program := "ytjnhfakdpnnboaadoor", sum := "4675185694e0c8b75a3f6f98bc1bd1790cb70b0b9ed8c0a0d6107848de17ad28", func := "simile/similelaw04.PrimeFermat", spec := "primeFermat", unfollowed := true, recurses := true, named := ["simile/prime.bases", "math/bits.deBruijn32tab"], apart := false, laid := [("math/bits.deBruijn32tab", laid_math_bits_deBruijn32tab), ("simile/prime.bases", laid_simile_prime_bases)], narrowed := true }
def PrimeFermatUptoSaid : Prop := primeFermatUptoRow.holds Tryd.pinned (OpenSpec.upto primeFermatSpec)

/-- 'similelaw04.PrimeField', WHERE WHAT IT READS IS OF BULK AT MOST 1048576: true; the input reads as it did. -/
def primeFieldUptoRow : OpenClaim := { program := "ytjnhfakdpnnboaadoor", sum := "4675185694e0c8b75a3f6f98bc1bd1790cb70b0b9ed8c0a0d6107848de17ad28", func := "simile/similelaw04.PrimeField", spec := "primeField", unfollowed := true, recurses := true, named := ["simile/prime.bases", "math/bits.deBruijn32tab"], apart := false, laid := [("math/bits.deBruijn32tab", laid_math_bits_deBruijn32tab), ("simile/prime.bases", laid_simile_prime_bases)], narrowed := true }
def PrimeFieldUptoSaid : Prop := primeFieldUptoRow.holds Tryd.pinned (OpenSpec.upto primeFieldSpec)

/-- 'similelaw04.PrimeLaws', WHERE WHAT IT READS IS OF BULK AT MOST 1048576: true; the input reads as it did. -/
def primeLawsUptoRow : OpenClaim := { program := "ytjnhfakdpnnboaadoor", sum := "4675185694e0c8b75a3f6f98bc1bd1790cb70b0b9ed8c0a0d6107848de17ad28", func := "simile/similelaw04.PrimeLaws", spec := "primeLaws", unfollowed := true, recurses := true, named := ["simile/prime.bases", "math/bits.deBruijn32tab"], apart := false, laid := [("math/bits.deBruijn32tab", laid_math_bits_deBruijn32tab), ("simile/prime.bases", laid_simile_prime_bases)], narrowed := true }
def PrimeLawsUptoSaid : Prop := primeLawsUptoRow.holds Tryd.pinned (OpenSpec.upto primeLawsSpec)

/-- 'similelaw04.PrimeIs', WHERE WHAT IT READS IS OF BULK AT MOST 1048576: true; the input reads as it did. -/
def primeIsUptoRow : OpenClaim := { program := "ytjnhfakdpnnboaadoor", sum := "4675185694e0c8b75a3f6f98bc1bd1790cb70b0b9ed8c0a0d6107848de17ad28", func := "simile/similelaw04.PrimeIs", spec := "primeIs", unfollowed := true, recurses := true, named := ["simile/prime.bases", "math/bits.deBruijn32tab"], apart := false, laid := [("math/bits.deBruijn32tab", laid_math_bits_deBruijn32tab), ("simile/prime.bases", laid_simile_prime_bases)], narrowed := true }
def PrimeIsUptoSaid : Prop := primeIsUptoRow.holds Tryd.pinned (OpenSpec.upto primeIsSpec)

/-- 'similelaw04.PrimeLists', WHERE WHAT IT READS IS OF BULK AT MOST 1048576: true; the input reads as it did. -/
def primeListsUptoRow : OpenClaim := { program := "ytjnhfakdpnnboaadoor", sum := "4675185694e0c8b75a3f6f98bc1bd1790cb70b0b9ed8c0a0d6107848de17ad28", func := "simile/similelaw04.PrimeLists", spec := "primeLists", unfollowed := true, recurses := true, named := ["simile/prime.bases", "math/bits.deBruijn32tab"], apart := false, laid := [("math/bits.deBruijn32tab", laid_math_bits_deBruijn32tab), ("simile/prime.bases", laid_simile_prime_bases)], narrowed := true }
def PrimeListsUptoSaid : Prop := primeListsUptoRow.holds Tryd.pinned (OpenSpec.upto primeListsSpec)

/-- 'similelaw04.PrimePeriods', WHERE WHAT IT READS IS OF BULK AT MOST 1048576: true; the input reads as it did. -/
def primePeriodsUptoRow : OpenClaim := { program := "ytjnhfakdpnnboaadoor", sum := "4675185694e0c8b75a3f6f98bc1bd1790cb70b0b9ed8c0a0d6107848de17ad28", func := "simile/similelaw04.PrimePeriods", spec := "primePeriods", unfollowed := true, recurses := true, named := ["simile/prime.bases", "math/bits.deBruijn32tab"], apart := false, laid := [("math/bits.deBruijn32tab", laid_math_bits_deBruijn32tab), ("simile/prime.bases", laid_simile_prime_bases)], narrowed := true }
def PrimePeriodsUptoSaid : Prop := primePeriodsUptoRow.holds Tryd.pinned (OpenSpec.upto primePeriodsSpec)

/-- 'similelaw04.PrimeOrders', WHERE WHAT IT READS IS OF BULK AT MOST 1048576: true; the input reads as it did. -/
def primeOrdersUptoRow : OpenClaim := { program := "ytjnhfakdpnnboaadoor", sum := "4675185694e0c8b75a3f6f98bc1bd1790cb70b0b9ed8c0a0d6107848de17ad28", func := "simile/similelaw04.PrimeOrders", spec := "primeOrders", recurses := true, named := ["simile/prime.bases", "math/bits.deBruijn32tab"], apart := false, laid := [("math/bits.deBruijn32tab", laid_math_bits_deBruijn32tab), ("simile/prime.bases", laid_simile_prime_bases)], narrowed := true }
def PrimeOrdersUptoSaid : Prop := primeOrdersUptoRow.holds Tryd.pinned (OpenSpec.upto primeOrdersSpec)

/-- 'similelaw04.PrimeFactors', WHERE WHAT IT READS IS OF BULK AT MOST 1048576: true; the input reads as it did. -/
def primeFactorsUptoRow : OpenClaim := { program := "ytjnhfakdpnnboaadoor", sum := "4675185694e0c8b75a3f6f98bc1bd1790cb70b0b9ed8c0a0d6107848de17ad28", func := "simile/similelaw04.PrimeFactors", spec := "primeFactors", recurses := true, named := ["simile/prime.bases", "math/bits.deBruijn32tab"], apart := false, laid := [("math/bits.deBruijn32tab", laid_math_bits_deBruijn32tab), ("simile/prime.bases", laid_simile_prime_bases)], narrowed := true }
def PrimeFactorsUptoSaid : Prop := primeFactorsUptoRow.holds Tryd.pinned (OpenSpec.upto primeFactorsSpec)

/-- 'similelaw04.PrimeParts', WHERE WHAT IT READS IS OF BULK AT MOST 1048576: true; the input reads as it did. -/
def primePartsUptoRow : OpenClaim := { program := "ytjnhfakdpnnboaadoor", sum := "4675185694e0c8b75a3f6f98bc1bd1790cb70b0b9ed8c0a0d6107848de17ad28", func := "simile/similelaw04.PrimeParts", spec := "primeParts", recurses := true, named := ["simile/prime.bases", "math/bits.deBruijn32tab"], apart := false, laid := [("math/bits.deBruijn32tab", laid_math_bits_deBruijn32tab), ("simile/prime.bases", laid_simile_prime_bases)], narrowed := true }
def PrimePartsUptoSaid : Prop := primePartsUptoRow.holds Tryd.pinned (OpenSpec.upto primePartsSpec)

end Rows
end Go.Proofs.YtjnhfakdpnnboaaDoor
