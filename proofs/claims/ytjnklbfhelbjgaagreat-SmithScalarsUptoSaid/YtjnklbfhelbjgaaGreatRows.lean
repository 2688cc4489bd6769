/-
  No cell of these rows narrows 'for every input' (looked for: loops, veiled, ifaces, maps, wideKeys, modest, calm, conditions, laid).
  DERIVED. THE GIVEN ROWS OF THIS SEAT. 4 by the template 'for every input the law returns true; each argument reads behind the call as it read before'; 0 by the template 'total and deterministic' (their statements: YtjnklbfhelbjgaaGreatTotals.lean).
  GIVEN WITH THE SEED: the statements are not yours to turn. If you find one false, say at which input.
  Laid BY PROGRAM, IN A SANDBOX (cutbox-rows.mjs): the forced cells as the released guide's own fill.sh prints them over the translation fa2af252c8b70fd0… (all of the seat's roots in one cut). By AI agents, Wed Nov 11 2026. No macro, syntax, notation, axiom, sorry.
-/
import Derived.Test.YtjnklbfhelbjgaaGreatChecked
import GoSem.Claim
import GoSem.ClaimJoined
import GoSem.ClaimMapViews
import Derived.JoinedTies
import Derived.KernelRfl
namespace Go.Proofs.YtjnklbfhelbjgaaGreat
/- THE CELL 'sum', in the pinned program and in every row, IS THE sha256 OF THE DUMP (.gsa) THAT YtjnklbfhelbjgaaGreatProg.lean LOADS. Nothing in Lean hashes anything: it is a label: what it is worth is what the hold of that sum in a sandbox is worth. -/
noncomputable def Tryz.pinned : Pinned := { name := "ytjnklbfhelbjgaagreat", sum := "fa2af252c8b70fd01e9d3e749cbc0ae2a44edb012533232ae805017662e0b904", checked := Tryz.checked }
namespace Rows
def none {H : Type} : Left H := { results := [], args := [] }

/-- 'similelaw17.CompanionReads': WHATEVER THE INPUT: true; the input reads as it did. -/
def companionReadsSpec : ChangeSpec := { name := "companionReads", fn := fun _ => fun
  | [d] => { results := [.lit (.bool true)], args := [d] }
  | _ => none }
def companionReadsRow : OpenClaim := { program := "ytjnklbfhelbjgaagreat", sum := "fa2af252c8b70fd01e9d3e749cbc0ae2a44edb012533232ae805017662e0b904", func := "simile/similelaw17.CompanionReads", spec := "companionReads", unfollowed := true, recurses := true, apart := false }
def CompanionReadsSaid : Prop := companionReadsRow.holds Tryz.pinned (OpenSpec.ofChange companionReadsSpec)

/-- ITS FALSE NEIGHBOUR: 'it returns false'. Refute it at one input. -/
def companionReadsWrong : ChangeSpec := { name := "companionReads", fn := fun _ => fun
  | [d] => { results := [.lit (.bool false)], args := [d] }
  | _ => none }
def CompanionReadsWrongFalsely : Prop := companionReadsRow.holds Tryz.pinned (OpenSpec.ofChange companionReadsWrong)

/-- 'similelaw18.SmithNames': WHATEVER THE INPUT: true; the input reads as it did. -/
def smithNamesSpec : ChangeSpec := { name := "smithNames", fn := fun _ => fun
  | [] => { results := [.lit (.bool true)], args := [] }
  | _ => none }
def smithNamesRow : OpenClaim := { program := "ytjnklbfhelbjgaagreat", sum := "fa2af252c8b70fd01e9d3e749cbc0ae2a44edb012533232ae805017662e0b904", func := "simile/similelaw18.SmithNames", spec := "smithNames", unfollowed := true, recurses := true, apart := false }
def SmithNamesSaid : Prop := smithNamesRow.holds Tryz.pinned (OpenSpec.ofChange smithNamesSpec)

/-- ITS FALSE NEIGHBOUR: 'it returns false'. Refute it at one input. -/
def smithNamesWrong : ChangeSpec := { name := "smithNames", fn := fun _ => fun
  | [] => { results := [.lit (.bool false)], args := [] }
  | _ => none }
def SmithNamesWrongFalsely : Prop := smithNamesRow.holds Tryz.pinned (OpenSpec.ofChange smithNamesWrong)

/-- 'similelaw18.SmithScalars': WHATEVER THE INPUT: true; the input reads as it did. -/
def smithScalarsSpec : ChangeSpec := { name := "smithScalars", fn := fun _ => fun
  | [d1, d2] => { results := [.lit (.bool true)], args := [d1, d2] }
  | _ => none }
def smithScalarsRow : OpenClaim := { program := "ytjnklbfhelbjgaagreat", sum := "fa2af252c8b70fd01e9d3e749cbc0ae2a44edb012533232ae805017662e0b904", func := "simile/similelaw18.SmithScalars", spec := "smithScalars", unfollowed := true, recurses := true, apart := false }
def SmithScalarsSaid : Prop := smithScalarsRow.holds Tryz.pinned (OpenSpec.ofChange smithScalarsSpec)

/-- ITS FALSE NEIGHBOUR: 'it returns false'. Refute it at one input. -/
def smithScalarsWrong : ChangeSpec := { name := "smithScalars", fn := fun _ => fun
  | [d1, d2] => { results := [.lit (.bool false)], args := [d1, d2] }
  | _ => none }
def SmithScalarsWrongFalsely : Prop := smithScalarsRow.holds Tryz.pinned (OpenSpec.ofChange smithScalarsWrong)

/-- 'similelaw18.SmithRings': WHATEVER THE INPUT: true; the input reads as it did. -/
def smithRingsSpec : ChangeSpec := { name := "smithRings", fn := fun _ => fun
  | [d1, d2, d3] => { results := [.lit (.bool true)], args := [d1, d2, d3] }
  | _ => none }
def smithRingsRow : OpenClaim := { program := "ytjnklbfhelbjgaagreat", sum := "fa2af252c8b70fd01e9d3e749cbc0ae2a44edb012533232ae805017662e0b904", func := "simile/similelaw18.SmithRings", spec := "smithRings", unfollowed := true, recurses := true, apart := false }
def SmithRingsSaid : Prop := smithRingsRow.holds Tryz.pinned (OpenSpec.ofChange smithRingsSpec)

/-- ITS FALSE NEIGHBOUR: 'it returns false'. Refute it at one input. -/
def smithRingsWrong : ChangeSpec := { name := "smithRings", fn := fun _ => fun
  | [d1, d2, d3] => { results := [.lit (.bool false)], args := [d1, d2, d3] }
  | _ => none }
def SmithRingsWrongFalsely : Prop := smithRingsRow.holds Tryz.pinned (OpenSpec.ofChange smithRingsWrong)

/- THE SECOND FORM. 'bulk': how many values and letters a reading holds, each counted each time it is reached (what is shared counts as often as it is met; a slice's spare places count too). A statement '..UptoSaid' is the law's where the arguments, and the package variables that the reading takes, are together of bulk at most 1048576: NARROWER than '..Said'. Prove '..Said' where nothing that the law and all that it calls make is longer than what came in: it says more and counts as full. Else prove '..UptoSaid'. A law counts once. -/
mutual
def uptoBulk {H : Type} : DataW H → Nat
  | .lit (.string bytes) => bytes.length + 1
  | .lit _ => 1
  | .nil => 1
  | .ptr d => uptoBulk d + 1
  | .slice elems spare => uptoBulkAll elems + uptoBulkAll spare + 1
  | .agg parts => uptoBulkAll parts + 1
  | .iface _ d => uptoBulk d + 1
  | .map entries => uptoBulkEntries entries + 1
  | .held _ => 1
def uptoBulkAll {H : Type} : List (DataW H) → Nat
  | [] => 0
  | d :: r => uptoBulk d + uptoBulkAll r
def uptoBulkEntries {H : Type} : List (Lit × DataW H) → Nat
  | [] => 0
  | x :: r => uptoBulkEntry x + uptoBulkEntries r
def uptoBulkEntry {H : Type} : Lit × DataW H → Nat
  | (.string bytes, d) => bytes.length + uptoBulk d + 1
  | (_, d) => uptoBulk d + 1
 end
def uptoSmall : (H : Type) → List (DataW H) → Bool := fun _ ds => decide (uptoBulkAll ds ≤ 1048576)
def OpenSpec.upto (s : _root_.Go.ChangeSpec) : _root_.Go.OpenSpec := { _root_.Go.OpenSpec.ofChange s with cond := some uptoSmall }

/-- 'similelaw17.CompanionReads', WHERE WHAT IT READS IS OF BULK AT MOST 1048576: true; the input reads as it did. -/
def companionReadsUptoRow : OpenClaim := { program := "ytjnklbfhelbjgaagreat", sum := "fa2af252c8b70fd01e9d3e749cbc0ae2a44edb012533232ae805017662e0b904", func := "simile/similelaw17.CompanionReads", spec := "companionReads", unfollowed := true, recurses := true, apart := false, narrowed := true }
def CompanionReadsUptoSaid : Prop := companionReadsUptoRow.holds Tryz.pinned (OpenSpec.upto companionReadsSpec)

/-- 'similelaw18.SmithNames', WHERE WHAT IT READS IS OF BULK AT MOST 1048576: true; the input reads as it did. -/
def smithNamesUptoRow : OpenClaim := { program := "ytjnklbfhelbjgaagreat", sum := "fa2af252c8b70fd01e9d3e749cbc0ae2a44edb012533232ae805017662e0b904", func := "simile/similelaw18.SmithNames", spec := "smithNames", unfollowed := true, recurses := true, apart := false, narrowed := true }
def SmithNamesUptoSaid : Prop := smithNamesUptoRow.holds Tryz.pinned (OpenSpec.upto smithNamesSpec)

/-- 'similelaw18.SmithScalars', WHERE WHAT IT READS IS OF BULK AT MOST 1048576: true; the input reads as it did. -/
def smithScalarsUptoRow : OpenClaim := { program := "ytjnklbfhelbjgaagreat", sum := "fa2af252c8b70fd01e9d3e749cbc0ae2a44edb012533232ae805017662e0b904", func := "simile/similelaw18.SmithScalars", spec := "smithScalars", unfollowed := true, recurses := true, apart := false, narrowed := true }
def SmithScalarsUptoSaid : Prop := smithScalarsUptoRow.holds Tryz.pinned (OpenSpec.upto smithScalarsSpec)

/-- 'similelaw18.SmithRings', WHERE WHAT IT READS IS OF BULK AT MOST 1048576: true; the input reads as it did. -/
def smithRingsUptoRow : OpenClaim := { program := "ytjnklbfhelbjgaagreat", sum := "fa2af252c8b70fd01e9d3e749cbc0ae2a44edb012533232ae805017662e0b904", func := "simile/similelaw18.SmithRings", spec := "smithRings", unfollowed := true, recurses := true, apart := false, narrowed := true }
def SmithRingsUptoSaid : Prop := smithRingsUptoRow.holds Tryz.pinned (OpenSpec.upto smithRingsSpec)

end Rows
end Go.Proofs.YtjnklbfhelbjgaaGreat
