/-
  No cell of these rows narrows 'for every input' (looked for: loops, veiled, ifaces, maps, wideKeys, modest, calm, conditions, laid).
  DERIVED. THE GIVEN ROWS OF THIS SEAT. 8 by the template 'for every input the law returns true; each argument reads behind the call as it read before'; 0 by the template 'total and deterministic' (their statements: YtipbpdiahemmpaaGreatTotals.lean).
  GIVEN WITH THE SEED: the statements are not yours to turn. If you find one false, say at which input.
  Laid BY PROGRAM, IN A SANDBOX (cutbox-rows.mjs): the forced cells as the released guide's own fill.sh prints them over the translation 53936dec6b311c93… (all of the seat's roots in one cut). By AI agents, Wed Nov 11 2026. No macro, syntax, notation, axiom, sorry.
-/
import Derived.Test.YtipbpdiahemmpaaGreatChecked
import GoSem.Claim
import GoSem.ClaimJoined
import GoSem.ClaimMapViews
import Derived.JoinedTies
import Derived.KernelRfl
namespace Go.Proofs.YtipbpdiahemmpaaGreat
/- THE CELL 'sum', in the pinned program and in every row, IS THE sha256 OF THE DUMP (.gsa) THAT YtipbpdiahemmpaaGreatProg.lean LOADS. Nothing in Lean hashes anything: it is a label: what it is worth is what the hold of that sum in a sandbox is worth. -/
noncomputable def Tryz.pinned : Pinned := { name := "ytipbpdiahemmpaagreat", sum := "53936dec6b311c934a4e01630a1b92794c918f19da155436a8f4d0902554e8a3", checked := Tryz.checked }
namespace Rows
def none {H : Type} : Left H := { results := [], args := [] }

/-- 'similelaw07.ZpolyForms': WHATEVER THE INPUT: true; the input reads as it did. -/
def zpolyFormsSpec : ChangeSpec := { name := "zpolyForms", fn := fun _ => fun
  | [d1, d2] => { results := [.lit (.bool true)], args := [d1, d2] }
  | _ => none }
def zpolyFormsRow : OpenClaim := { program := "ytipbpdiahemmpaagreat", sum := "53936dec6b311c934a4e01630a1b92794c918f19da155436a8f4d0902554e8a3", func := "simile/similelaw07.ZpolyForms", spec := "zpolyForms", unfollowed := true, recurses := true, apart := false }
def ZpolyFormsSaid : Prop := zpolyFormsRow.holds Tryz.pinned (OpenSpec.ofChange zpolyFormsSpec)

/-- ITS FALSE NEIGHBOUR: 'it returns false'. Refute it at one input. -/
def zpolyFormsWrong : ChangeSpec := { name := "zpolyForms", fn := fun _ => fun
  | [d1, d2] => { results := [.lit (.bool false)], args := [d1, d2] }
  | _ => none }
def ZpolyFormsWrongFalsely : Prop := zpolyFormsRow.holds Tryz.pinned (OpenSpec.ofChange zpolyFormsWrong)

/-- 'similelaw09.QpolyDivides': WHATEVER THE INPUT: true; the input reads as it did. -/
def qpolyDividesSpec : ChangeSpec := { name := "qpolyDivides", fn := fun _ => fun
  | [d1, d2] => { results := [.lit (.bool true)], args := [d1, d2] }
  | _ => none }
def qpolyDividesRow : OpenClaim := { program := "ytipbpdiahemmpaagreat", sum := "53936dec6b311c934a4e01630a1b92794c918f19da155436a8f4d0902554e8a3", func := "simile/similelaw09.QpolyDivides", spec := "qpolyDivides", unfollowed := true, recurses := true, apart := false }
def QpolyDividesSaid : Prop := qpolyDividesRow.holds Tryz.pinned (OpenSpec.ofChange qpolyDividesSpec)

/-- ITS FALSE NEIGHBOUR: 'it returns false'. Refute it at one input. -/
def qpolyDividesWrong : ChangeSpec := { name := "qpolyDivides", fn := fun _ => fun
  | [d1, d2] => { results := [.lit (.bool false)], args := [d1, d2] }
  | _ => none }
def QpolyDividesWrongFalsely : Prop := qpolyDividesRow.holds Tryz.pinned (OpenSpec.ofChange qpolyDividesWrong)

/-- 'similelaw09.QpolyForms': WHATEVER THE INPUT: true; the input reads as it did. -/
def qpolyFormsSpec : ChangeSpec := { name := "qpolyForms", fn := fun _ => fun
  | [d1, d2, d3] => { results := [.lit (.bool true)], args := [d1, d2, d3] }
  | _ => none }
def qpolyFormsRow : OpenClaim := { program := "ytipbpdiahemmpaagreat", sum := "53936dec6b311c934a4e01630a1b92794c918f19da155436a8f4d0902554e8a3", func := "simile/similelaw09.QpolyForms", spec := "qpolyForms", unfollowed := true, recurses := true, apart := false }
def QpolyFormsSaid : Prop := qpolyFormsRow.holds Tryz.pinned (OpenSpec.ofChange qpolyFormsSpec)

/-- ITS FALSE NEIGHBOUR: 'it returns false'. Refute it at one input. -/
def qpolyFormsWrong : ChangeSpec := { name := "qpolyForms", fn := fun _ => fun
  | [d1, d2, d3] => { results := [.lit (.bool false)], args := [d1, d2, d3] }
  | _ => none }
def QpolyFormsWrongFalsely : Prop := qpolyFormsRow.holds Tryz.pinned (OpenSpec.ofChange qpolyFormsWrong)

/-- 'similelaw09.QpolySums': WHATEVER THE INPUT: true; the input reads as it did. -/
def qpolySumsSpec : ChangeSpec := { name := "qpolySums", fn := fun _ => fun
  | [d1, d2, d3] => { results := [.lit (.bool true)], args := [d1, d2, d3] }
  | _ => none }
def qpolySumsRow : OpenClaim := { program := "ytipbpdiahemmpaagreat", sum := "53936dec6b311c934a4e01630a1b92794c918f19da155436a8f4d0902554e8a3", func := "simile/similelaw09.QpolySums", spec := "qpolySums", unfollowed := true, recurses := true, apart := false }
def QpolySumsSaid : Prop := qpolySumsRow.holds Tryz.pinned (OpenSpec.ofChange qpolySumsSpec)

/-- ITS FALSE NEIGHBOUR: 'it returns false'. Refute it at one input. -/
def qpolySumsWrong : ChangeSpec := { name := "qpolySums", fn := fun _ => fun
  | [d1, d2, d3] => { results := [.lit (.bool false)], args := [d1, d2, d3] }
  | _ => none }
def QpolySumsWrongFalsely : Prop := qpolySumsRow.holds Tryz.pinned (OpenSpec.ofChange qpolySumsWrong)

/-- 'similelaw09.QpolyLists': WHATEVER THE INPUT: true; the input reads as it did. -/
def qpolyListsSpec : ChangeSpec := { name := "qpolyLists", fn := fun _ => fun
  | [d] => { results := [.lit (.bool true)], args := [d] }
  | _ => none }
def qpolyListsRow : OpenClaim := { program := "ytipbpdiahemmpaagreat", sum := "53936dec6b311c934a4e01630a1b92794c918f19da155436a8f4d0902554e8a3", func := "simile/similelaw09.QpolyLists", spec := "qpolyLists", unfollowed := true, recurses := true, apart := false }
def QpolyListsSaid : Prop := qpolyListsRow.holds Tryz.pinned (OpenSpec.ofChange qpolyListsSpec)

/-- ITS FALSE NEIGHBOUR: 'it returns false'. Refute it at one input. -/
def qpolyListsWrong : ChangeSpec := { name := "qpolyLists", fn := fun _ => fun
  | [d] => { results := [.lit (.bool false)], args := [d] }
  | _ => none }
def QpolyListsWrongFalsely : Prop := qpolyListsRow.holds Tryz.pinned (OpenSpec.ofChange qpolyListsWrong)

/-- 'similelaw09.QpolyComposes': WHATEVER THE INPUT: true; the input reads as it did. -/
def qpolyComposesSpec : ChangeSpec := { name := "qpolyComposes", fn := fun _ => fun
  | [d1, d2] => { results := [.lit (.bool true)], args := [d1, d2] }
  | _ => none }
def qpolyComposesRow : OpenClaim := { program := "ytipbpdiahemmpaagreat", sum := "53936dec6b311c934a4e01630a1b92794c918f19da155436a8f4d0902554e8a3", func := "simile/similelaw09.QpolyComposes", spec := "qpolyComposes", unfollowed := true, recurses := true, apart := false }
def QpolyComposesSaid : Prop := qpolyComposesRow.holds Tryz.pinned (OpenSpec.ofChange qpolyComposesSpec)

/-- ITS FALSE NEIGHBOUR: 'it returns false'. Refute it at one input. -/
def qpolyComposesWrong : ChangeSpec := { name := "qpolyComposes", fn := fun _ => fun
  | [d1, d2] => { results := [.lit (.bool false)], args := [d1, d2] }
  | _ => none }
def QpolyComposesWrongFalsely : Prop := qpolyComposesRow.holds Tryz.pinned (OpenSpec.ofChange qpolyComposesWrong)

/-- 'similelaw17.CompanionReads': WHATEVER THE INPUT: true; the input reads as it did. -/
def companionReadsSpec : ChangeSpec := { name := "companionReads", fn := fun _ => fun
  | [d] => { results := [.lit (.bool true)], args := [d] }
  | _ => none }
def companionReadsRow : OpenClaim := { program := "ytipbpdiahemmpaagreat", sum := "53936dec6b311c934a4e01630a1b92794c918f19da155436a8f4d0902554e8a3", func := "simile/similelaw17.CompanionReads", spec := "companionReads", unfollowed := true, recurses := true, apart := false }
def CompanionReadsSaid : Prop := companionReadsRow.holds Tryz.pinned (OpenSpec.ofChange companionReadsSpec)

/-- ITS FALSE NEIGHBOUR: 'it returns false'. Refute it at one input. -/
def companionReadsWrong : ChangeSpec := { name := "companionReads", fn := fun _ => fun
  | [d] => { results := [.lit (.bool false)], args := [d] }
  | _ => none }
def CompanionReadsWrongFalsely : Prop := companionReadsRow.holds Tryz.pinned (OpenSpec.ofChange companionReadsWrong)

/-- 'similelaw09.QpolyRing': WHATEVER THE INPUT: true; the input reads as it did. -/
def qpolyRingSpec : ChangeSpec := { name := "qpolyRing", fn := fun _ => fun
  | [d1, d2, d3] => { results := [.lit (.bool true)], args := [d1, d2, d3] }
  | _ => none }
def qpolyRingRow : OpenClaim := { program := "ytipbpdiahemmpaagreat", sum := "53936dec6b311c934a4e01630a1b92794c918f19da155436a8f4d0902554e8a3", func := "simile/similelaw09.QpolyRing", spec := "qpolyRing", unfollowed := true, recurses := true, apart := false }
def QpolyRingSaid : Prop := qpolyRingRow.holds Tryz.pinned (OpenSpec.ofChange qpolyRingSpec)

/-- ITS FALSE NEIGHBOUR: 'it returns false'. Refute it at one input. -/
def qpolyRingWrong : ChangeSpec := { name := "qpolyRing", fn := fun _ => fun
  | [d1, d2, d3] => { results := [.lit (.bool false)], args := [d1, d2, d3] }
  | _ => none }
def QpolyRingWrongFalsely : Prop := qpolyRingRow.holds Tryz.pinned (OpenSpec.ofChange qpolyRingWrong)

/- THE SECOND FORM. 'bulk': how many values and letters a reading holds, each counted each time it is reached (what is shared counts as often as it is met; a slice's spare places count too). A statement '..UptoSaid' is the law's where the arguments, and the package variables that the reading takes, are together of bulk at most 1048576: NARROWER than '..Said'. Prove '..Said' where nothing that the law and all that it calls make is longer than what came in: it says more and counts as full. Else prove '..UptoSaid'. A law counts once. -/
mutual
def uptoBulk {H : Type} : DataW H → Nat
  | .lit (.string bytes) => bytes.length + 1
  | .lit _ => 1
  | .nil => 1
  | .ptr d => uptoBulk d + 1
  | .slice elems spare => uptoBulkAll elems + uptoBulkAll spare + 1
  | .agg parts => uptoBulkAll parts + 1
  | .iface _ d => uptoBulk d + 1
  | .map entries => uptoBulkEntries entries + 1
  | .held _ => 1
def uptoBulkAll {H : Type} : List (DataW H) → Nat
  | [] => 0
  | d :: r => uptoBulk d + uptoBulkAll r
def uptoBulkEntries {H : Type} : List (Lit × DataW H) → Nat
  | [] => 0
  | x :: r => uptoBulkEntry x + uptoBulkEntries r
def uptoBulkEntry {H : Type} : Lit × DataW H → Nat
  | (.string bytes, d) => bytes.length + uptoBulk d + 1
  | (_, d) => uptoBulk d + 1
 end
def uptoSmall : (H : Type) → List (DataW H) → Bool := fun _ ds => decide (uptoBulkAll ds ≤ 1048576)
def OpenSpec.upto (s : _root_.Go.ChangeSpec) : _root_.Go.OpenSpec := { _root_.Go.OpenSpec.ofChange s with cond := some uptoSmall }

/-- 'similelaw07.ZpolyForms', WHERE WHAT IT READS IS OF BULK AT MOST 1048576: true; the input reads as it did. -/
def zpolyFormsUptoRow : OpenClaim := { program := "ytipbpdiahemmpaagreat", sum := "53936dec6b311c934a4e01630a1b92794c918f19da155436a8f4d0902554e8a3", func := "simile/similelaw07.ZpolyForms", spec := "zpolyForms", unfollowed := true, recurses := true, apart := false, narrowed := true }
def ZpolyFormsUptoSaid : Prop := zpolyFormsUptoRow.holds Tryz.pinned (OpenSpec.upto zpolyFormsSpec)

/-- 'similelaw09.QpolyDivides', WHERE WHAT IT READS IS OF BULK AT MOST 1048576: true; the input reads as it did. -/
def qpolyDividesUptoRow : OpenClaim := { program := "ytipbpdiahemmpaagreat", sum := "53936dec6b311c934a4e01630a1b92794c918f19da155436a8f4d0902554e8a3", func := "simile/similelaw09.QpolyDivides", spec := "qpolyDivides", unfollowed := true, recurses := true, apart := false, narrowed := true }
def QpolyDividesUptoSaid : Prop := qpolyDividesUptoRow.holds Tryz.pinned (OpenSpec.upto qpolyDividesSpec)

/-- 'similelaw09.QpolyForms', WHERE WHAT IT READS IS OF BULK AT MOST 1048576: true; the input reads as it did. -/
def qpolyFormsUptoRow : OpenClaim := { program := "ytipbpdiahemmpaagreat", sum := "53936dec6b311c934a4e01630a1b92794c918f19da155436a8f4d0902554e8a3", func := "simile/similelaw09.QpolyForms", spec := "qpolyForms", unfollowed := true, recurses := true, apart := false, narrowed := true }
def QpolyFormsUptoSaid : Prop := qpolyFormsUptoRow.holds Tryz.pinned (OpenSpec.upto qpolyFormsSpec)

/-- 'similelaw09.QpolySums', WHERE WHAT IT READS IS OF BULK AT MOST 1048576: true; the input reads as it did. -/
def qpolySumsUptoRow : OpenClaim := { program := "ytipbpdiahemmpaagreat", sum := "53936dec6b311c934a4e01630a1b92794c918f19da155436a8f4d0902554e8a3", func := "simile/similelaw09.QpolySums", spec := "qpolySums", unfollowed := true, recurses := true, apart := false, narrowed := true }
def QpolySumsUptoSaid : Prop := qpolySumsUptoRow.holds Tryz.pinned (OpenSpec.upto qpolySumsSpec)

/-- 'similelaw09.QpolyLists', WHERE WHAT IT READS IS OF BULK AT MOST 1048576: true; the input reads as it did. -/
def qpolyListsUptoRow : OpenClaim := { program := "ytipbpdiahemmpaagreat", sum := "53936dec6b311c934a4e01630a1b92794c918f19da155436a8f4d0902554e8a3", func := "simile/similelaw09.QpolyLists", spec := "qpolyLists", unfollowed := true, recurses := true, apart := false, narrowed := true }
def QpolyListsUptoSaid : Prop := qpolyListsUptoRow.holds Tryz.pinned (OpenSpec.upto qpolyListsSpec)

/-- 'similelaw09.QpolyComposes', WHERE WHAT IT READS IS OF BULK AT MOST 1048576: true; the input reads as it did. -/
def qpolyComposesUptoRow : OpenClaim := { program := "ytipbpdiahemmpaagreat", sum := "53936dec6b311c934a4e01630a1b92794c918f19da155436a8f4d0902554e8a3", func := "simile/similelaw09.QpolyComposes", spec := "qpolyComposes", unfollowed := true, recurses := true, apart := false, narrowed := true }
def QpolyComposesUptoSaid : Prop := qpolyComposesUptoRow.holds Tryz.pinned (OpenSpec.upto qpolyComposesSpec)

/-- 'similelaw17.CompanionReads', WHERE WHAT IT READS IS OF BULK AT MOST 1048576: true; the input reads as it did. -/
def companionReadsUptoRow : OpenClaim := { program := "ytipbpdiahemmpaagreat", sum := "53936dec6b311c934a4e01630a1b92794c918f19da155436a8f4d0902554e8a3", func := "simile/similelaw17.CompanionReads", spec := "companionReads", unfollowed := true, recurses := true, apart := false, narrowed := true }
def CompanionReadsUptoSaid : Prop := companionReadsUptoRow.holds Tryz.pinned (OpenSpec.upto companionReadsSpec)

/-- 'similelaw09.QpolyRing', WHERE WHAT IT READS IS OF BULK AT MOST 1048576: true; the input reads as it did. -/
def qpolyRingUptoRow : OpenClaim := { program := "ytipbpdiahemmpaagreat", sum := "53936dec6b311c934a4e01630a1b92794c918f19da155436a8f4d0902554e8a3", func := "simile/similelaw09.QpolyRing", spec := "qpolyRing", unfollowed := true, recurses := true, apart := false, narrowed := true }
def QpolyRingUptoSaid : Prop := qpolyRingUptoRow.holds Tryz.pinned (OpenSpec.upto qpolyRingSpec)

end Rows
end Go.Proofs.YtipbpdiahemmpaaGreat
