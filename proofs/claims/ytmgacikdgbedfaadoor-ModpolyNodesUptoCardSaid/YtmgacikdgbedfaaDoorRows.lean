/-
  NARROWER THAN 'FOR EVERY INPUT', by the rows' own cells (each row's printed sentence says how): ModpolyNames: laid · ModpolyFreshman: laid · ModpolyShifts: laid · ModpolyNodes: laid · ModpolyMakes: laid.
  DERIVED. THE GIVEN ROWS OF THIS SEAT. 5 by the template 'for every input the law returns true; each argument reads behind the call as it read before'; 0 by the template 'total and deterministic' (their statements: YtmgacikdgbedfaaDoorTotals.lean).
  GIVEN WITH THE SEED: the statements are not yours to turn. If you find one false, say at which input.
  Laid BY PROGRAM, IN A SANDBOX (cutbox-rows.mjs): the forced cells as the released guide's own fill.sh prints them over the translation 2fbcaba5eaf9ccd8… (all of the seat's roots in one cut). By AI agents, Wed Nov 11 2026. No macro, syntax, notation, axiom, sorry.
-/
import Derived.Test.YtmgacikdgbedfaaDoorChecked
import GoSem.Claim
import GoSem.ClaimJoined
import GoSem.ClaimMapViews
import Derived.JoinedTies
import Derived.KernelRfl
namespace Go.Proofs.YtmgacikdgbedfaaDoor
/- THE CELL 'sum', in the pinned program and in every row, IS THE sha256 OF THE DUMP (.gsa) THAT YtmgacikdgbedfaaDoorProg.lean LOADS. Nothing in Lean hashes anything: it is a label: what it is worth is what the hold of that sum in a sandbox is worth. -/
noncomputable def Tryd.pinned : Pinned := { name := "ytmgacikdgbedfaadoor", sum := "2fbcaba5eaf9ccd8d083e59377d937d5ae0f36ab768da7981fe976701bba0b8e", checked := Tryd.checked }
namespace Rows
def none {H : Type} : Left H := { results := [], args := [] }

/- WHAT THE LISTED PACKAGE-LEVEL VARIABLES READ AS WHEN THE CALL BEGINS. Each datum BY PROGRAM (the guide's laid-datum.mjs) off the statement by which the dump's own 'gosem.cut.vars' lays the variable. In a bare row this is a premise. The card (YtmgacikdgbedfaaDoorCards.lean) ties it to the program's text. -/
def laid_math_bits_deBruijn32tab {H : Type} : DataW H := .agg [.lit (.int .u8 0), .lit (.int .u8 1), .lit (.int .u8 28), .lit (.int .u8 2), .lit (.int .u8 29), .lit (.int .u8 14), .lit (.int .u8 24), .lit (.int .u8 3), .lit (.int .u8 30), .lit (.int .u8 22), .lit (.int .u8 20), .lit (.int .u8 15), .lit (.int .u8 25), .lit (.int .u8 17), .lit (.int .u8 4), .lit (.int .u8 8), .lit (.int .u8 31), .lit (.int .u8 27), .lit (.int .u8 13), .lit (.int .u8 23), .lit (.int .u8 21), .lit (.int .u8 19), .lit (.int .u8 16), .lit (.int .u8 7), .lit (.int .u8 26), .lit (.int .u8 12), .lit (.int .u8 18), .lit (.int .u8 6), .lit (.int .u8 11), .lit (.int .u8 5), .lit (.int .u8 10), .lit (.int .u8 9)]
def laid_simile_prime_bases {H : Type} : DataW H := .agg [.lit (.int .u32 2), .lit (.int .u32 7), .lit (.int .u32 61)]

/-- 'similelaw08.ModpolyNames': WHATEVER THE INPUT: true; the input reads as it did. -/
def modpolyNamesSpec : ChangeSpec := { name := "modpolyNames", fn := fun _ => fun
  | [] => { results := [.lit (.bool true)], args := [] }
  | _ => none }
def modpolyNamesRow : OpenClaim := { program := "ytmgacikdgbedfaadoor", sum := "2fbcaba5eaf9ccd8d083e59377d937d5ae0f36ab768da7981fe976701bba0b8e", func := "simile/similelaw08.ModpolyNames", spec := "modpolyNames", unfollowed := true, recurses := true, named := ["simile/prime.bases", "math/bits.deBruijn32tab"], apart := false, laid := [("math/bits.deBruijn32tab", laid_math_bits_deBruijn32tab), ("simile/prime.bases", laid_simile_prime_bases)] }
def ModpolyNamesSaid : Prop := modpolyNamesRow.holds Tryd.pinned (OpenSpec.ofChange modpolyNamesSpec)

/-- ITS FALSE NEIGHBOUR: 'it returns false'. Refute it at one input. -/
def modpolyNamesWrong : ChangeSpec := { name := "modpolyNames", fn := fun _ => fun
  | [] => { results := [.lit (.bool false)], args := [] }
  | _ => none }
def ModpolyNamesWrongFalsely : Prop := modpolyNamesRow.holds Tryd.pinned (OpenSpec.ofChange modpolyNamesWrong)

/-- 'similelaw08.ModpolyFreshman': WHATEVER THE INPUT: true; the input reads as it did. -/
def modpolyFreshmanSpec : ChangeSpec := { name := "modpolyFreshman", fn := fun _ => fun
  | [d1, d2, d3] => { results := [.lit (.bool true)], args := [d1, d2, d3] }
  | _ => none }
def modpolyFreshmanRow : OpenClaim := { program := "ytmgacikdgbedfaadoor", sum := "2fbcaba5eaf9ccd8d083e59377d937d5ae0f36ab768da7981fe976701bba0b8e", func := "simile/similelaw08.ModpolyFreshman", spec := "modpolyFreshman", unfollowed := true, recurses := true, named := ["simile/prime.bases", "math/bits.deBruijn32tab"], apart := false, laid := [("math/bits.deBruijn32tab", laid_math_bits_deBruijn32tab), ("simile/prime.bases", laid_simile_prime_bases)] }
def ModpolyFreshmanSaid : Prop := modpolyFreshmanRow.holds Tryd.pinned (OpenSpec.ofChange modpolyFreshmanSpec)

/-- ITS FALSE NEIGHBOUR: 'it returns false'. Refute it at one input. -/
def modpolyFreshmanWrong : ChangeSpec := { name := "modpolyFreshman", fn := fun _ => fun
  | [d1, d2, d3] => { results := [.lit (.bool false)], args := [d1, d2, d3] }
  | _ => none }
def ModpolyFreshmanWrongFalsely : Prop := modpolyFreshmanRow.holds Tryd.pinned (OpenSpec.ofChange modpolyFreshmanWrong)

/-- 'similelaw08.ModpolyShifts': WHATEVER THE INPUT: true; the input reads as it did. -/
def modpolyShiftsSpec : ChangeSpec := { name := "modpolyShifts", fn := fun _ => fun
  | [d1, d2] => { results := [.lit (.bool true)], args := [d1, d2] }
  | _ => none }
def modpolyShiftsRow : OpenClaim := { program := "ytmgacikdgbedfaadoor", sum := "2fbcaba5eaf9ccd8d083e59377d937d5ae0f36ab768da7981fe976701bba0b8e", func := "simile/similelaw08.ModpolyShifts", spec := "modpolyShifts", unfollowed := true, recurses := true, named := ["simile/prime.bases", "math/bits.deBruijn32tab"], apart := false, laid := [("math/bits.deBruijn32tab", laid_math_bits_deBruijn32tab), ("simile/prime.bases", laid_simile_prime_bases)] }
def ModpolyShiftsSaid : Prop := modpolyShiftsRow.holds Tryd.pinned (OpenSpec.ofChange modpolyShiftsSpec)

/-- ITS FALSE NEIGHBOUR: 'it returns false'. Refute it at one input. -/
def modpolyShiftsWrong : ChangeSpec := { name := "modpolyShifts", fn := fun _ => fun
  | [d1, d2] => { results := [.lit (.bool false)], args := [d1, d2] }
  | _ => none }
def ModpolyShiftsWrongFalsely : Prop := modpolyShiftsRow.holds Tryd.pinned (OpenSpec.ofChange modpolyShiftsWrong)

/-- 'similelaw08.ModpolyNodes': WHATEVER THE INPUT: true; the input reads as it did. -/
def modpolyNodesSpec : ChangeSpec := { name := "modpolyNodes", fn := fun _ => fun
  | [d1, d2, d3] => { results := [.lit (.bool true)], args := [d1, d2, d3] }
  | _ => none }
def modpolyNodesRow : OpenClaim := { program := "ytmgacikdgbedfaadoor", sum := "2fbcaba5eaf9ccd8d083e59377d937d5ae0f36ab768da7981fe976701bba0b8e", func := "simile/similelaw08.ModpolyNodes", spec := "modpolyNodes", unfollowed := true, recurses := true, named := ["simile/prime.bases", "math/bits.deBruijn32tab"], apart := false, laid := [("math/bits.deBruijn32tab", laid_math_bits_deBruijn32tab), ("simile/prime.bases", laid_simile_prime_bases)] }
def ModpolyNodesSaid : Prop := modpolyNodesRow.holds Tryd.pinned (OpenSpec.ofChange modpolyNodesSpec)

/-- ITS FALSE NEIGHBOUR: 'it returns false'. Refute it at one input. -/
def modpolyNodesWrong : ChangeSpec := { name := "modpolyNodes", fn := fun _ => fun
  | [d1, d2, d3] => { results := [.lit (.bool false)], args := [d1, d2, d3] }
  | _ => none }
def ModpolyNodesWrongFalsely : Prop := modpolyNodesRow.holds Tryd.pinned (OpenSpec.ofChange modpolyNodesWrong)

/-- 'similelaw08.ModpolyMakes': WHATEVER THE INPUT: true; the input reads as it did. -/
def modpolyMakesSpec : ChangeSpec := { name := "modpolyMakes", fn := fun _ => fun
  | [d1, d2, d3] => { results := [.lit (.bool true)], args := [d1, d2, d3] }
  | _ => none }
def modpolyMakesRow : OpenClaim := { program := "ytmgacikdgbedfaadoor", sum := "2fbcaba5eaf9ccd8d083e59377d937d5ae0f36ab768da7981fe976701bba0b8e", func := "simile/similelaw08.ModpolyMakes", spec := "modpolyMakes", unfollowed := true, recurses := true, named := ["simile/prime.bases", "math/bits.deBruijn32tab"], apart := false, laid := [("math/bits.deBruijn32tab", laid_math_bits_deBruijn32tab), ("simile/prime.bases", laid_simile_prime_bases)] }
def ModpolyMakesSaid : Prop := modpolyMakesRow.holds Tryd.pinned (OpenSpec.ofChange modpolyMakesSpec)

/-- ITS FALSE NEIGHBOUR: 'it returns false'. Refute it at one input. -/
def modpolyMakesWrong : ChangeSpec := { name := "modpolyMakes", fn := fun _ => fun
  | [d1, d2, d3] => { results := [.lit (.bool false)], args := [d1, d2, d3] }
  | _ => none }
def ModpolyMakesWrongFalsely : Prop := modpolyMakesRow.holds Tryd.pinned (OpenSpec.ofChange modpolyMakesWrong)

/- THE SECOND FORM. 'bulk': how many values and letters a reading holds, each counted each time it is reached (what is shared counts as often as it is met; a slice's spare places count too). A statement '..UptoSaid' is the law's where the arguments, and the package variables that the reading takes, are together of bulk at most 1048576: NARROWER than '..Said'. Prove '..Said' where nothing that the law and all that it calls make is longer than what came in: it says more and counts as full. Else prove '..UptoSaid'. A law counts once. -/
mutual
def uptoBulk {H : Type} : DataW H → Nat
  | .lit (.string bytes) => bytes.length + 1
  | .lit _ => 1
  | .nil => 1
  | .ptr d => uptoBulk d + 1
  | .slice elems spare => uptoBulkAll elems + uptoBulkAll spare + 1
  | .agg parts => uptoBulkAll parts + 1
  | .iface _ d => uptoBulk d + 1
  | .map entries => uptoBulkEntries entries + 1
  | .held _ => 1
def uptoBulkAll {H : Type} : List (DataW H) → Nat
  | [] => 0
  | d :: r => uptoBulk d + uptoBulkAll r
def uptoBulkEntries {H : Type} : List (Lit × DataW H) → Nat
  | [] => 0
  | x :: r => uptoBulkEntry x + uptoBulkEntries r
def uptoBulkEntry {H : Type} : Lit × DataW H → Nat
  | (.string bytes, d) => bytes.length + uptoBulk d + 1
  | (_, d) => uptoBulk d + 1
 end
def uptoSmall : (H : Type) → List (DataW H) → Bool := fun _ ds => decide (uptoBulkAll ds ≤ 1048576)
def OpenSpec.upto (s : _root_.Go.ChangeSpec) : _root_.Go.OpenSpec := { _root_.Go.OpenSpec.ofChange s with cond := some uptoSmall }

/-- 'similelaw08.ModpolyNames', WHERE WHAT IT READS IS OF BULK AT MOST 1048576: true; the input reads as it did. -/
def modpolyNamesUptoRow : OpenClaim := { program := "ytmgacikdgbedfaadoor", sum := "2fbcaba5eaf9ccd8d083e59377d937d5ae0f36ab768da7981fe976701bba0b8e", func := "simile/similelaw08.ModpolyNames", spec := "modpolyNames", unfollowed := true, recurses := true, named := ["simile/prime.bases", "math/bits.deBruijn32tab"], apart := false, laid := [("math/bits.deBruijn32tab", laid_math_bits_deBruijn32tab), ("simile/prime.bases", laid_simile_prime_bases)], narrowed := true }
def ModpolyNamesUptoSaid : Prop := modpolyNamesUptoRow.holds Tryd.pinned (OpenSpec.upto modpolyNamesSpec)

/-- 'similelaw08.ModpolyFreshman', WHERE WHAT IT READS IS OF BULK AT MOST 1048576: true; the input reads as it did. -/
def modpolyFreshmanUptoRow : OpenClaim := { program := "ytmgacikdgbedfaadoor", sum := "2fbcaba5eaf9ccd8d083e59377d937d5ae0f36ab768da7981fe976701bba0b8e", func := "simile/similelaw08.ModpolyFreshman", spec := "modpolyFreshman", unfollowed := true, recurses := true, named := ["simile/prime.bases", "math/bits.deBruijn32tab"], apart := false, laid := [("math/bits.deBruijn32tab", laid_math_bits_deBruijn32tab), ("simile/prime.bases", laid_simile_prime_bases)], narrowed := true }
def ModpolyFreshmanUptoSaid : Prop := modpolyFreshmanUptoRow.holds Tryd.pinned (OpenSpec.upto modpolyFreshmanSpec)

/-- 'similelaw08.ModpolyShifts', WHERE WHAT IT READS IS OF BULK AT MOST 1048576: true; the input reads as it did. -/
def modpolyShiftsUptoRow : OpenClaim := { program := "ytmgacikdgbedfaadoor", sum := "2fbcaba5eaf9ccd8d083e59377d937d5ae0f36ab768da7981fe976701bba0b8e", func := "simile/similelaw08.ModpolyShifts", spec := "modpolyShifts", unfollowed := true, recurses := true, named := ["simile/prime.bases", "math/bits.deBruijn32tab"], apart := false, laid := [("math/bits.deBruijn32tab", laid_math_bits_deBruijn32tab), ("simile/prime.bases", laid_simile_prime_bases)], narrowed := true }
def ModpolyShiftsUptoSaid : Prop := modpolyShiftsUptoRow.holds Tryd.pinned (OpenSpec.upto modpolyShiftsSpec)

/-- 'similelaw08.ModpolyNodes', WHERE WHAT IT READS IS OF BULK AT MOST 1048576: true; the input reads as it did. -/
def modpolyNodesUptoRow : OpenClaim := { program := "ytmgacikdgbedfaadoor", sum := "2fbcaba5eaf9ccd8d083e59377d937d5ae0f36ab768da7981fe976701bba0b8e", func := "simile/similelaw08.ModpolyNodes", spec := "modpolyNodes", unfollowed := true, recurses := true, named := ["simile/prime.bases", "math/bits.deBruijn32tab"], apart := false, laid := [("math/bits.deBruijn32tab", laid_math_bits_deBruijn32tab), ("simile/prime.bases", laid_simile_prime_bases)], narrowed := true }
def ModpolyNodesUptoSaid : Prop := modpolyNodesUptoRow.holds Tryd.pinned (OpenSpec.upto modpolyNodesSpec)

/-- 'similelaw08.ModpolyMakes', WHERE WHAT IT READS IS OF BULK AT MOST 1048576: true; the input reads as it did. -/
def modpolyMakesUptoRow : OpenClaim := { program := "ytmgacikdgbedfaadoor", sum := "2fbcaba5eaf9ccd8d083e59377d937d5ae0f36ab768da7981fe976701bba0b8e", func := "simile/similelaw08.ModpolyMakes", spec := "modpolyMakes", unfollowed := true, recurses := true, named := ["simile/prime.bases", "math/bits.deBruijn32tab"], apart := false, laid := [("math/bits.deBruijn32tab", laid_math_bits_deBruijn32tab), ("simile/prime.bases", laid_simile_prime_bases)], narrowed := true }
def ModpolyMakesUptoSaid : Prop := modpolyMakesUptoRow.holds Tryd.pinned (OpenSpec.upto modpolyMakesSpec)

end Rows
end Go.Proofs.YtmgacikdgbedfaaDoor
