/- The examples that each law holds; 'num', 'told'. -/
import Derived.Test.YtmgacikdgbedfaaGreatDoorW7
import Derived.Deep.RegionWith
namespace Go.Proofs.YtmgacikdgbedfaaGreatDoor
open Go.RowKit Go.IntWalk

theorem pr7 : Nt.Pr 7 := Nt.seven_pr 7 (by simp [Nt.seven])
theorem prBig : Nt.Pr 4294967291 := by
  rw [← Nt.isP_iff]
  refine Nt.isP_pass (s := 1) (d := 2147483645) (by omega) (by omega) (fun q hq => ?_) (by omega) (by omega) ?_ ?_ ?_
  · simp only [Nt.seven, List.mem_cons, List.not_mem_nil, or_false] at hq
    rcases hq with rfl | rfl | rfl | rfl | rfl | rfl | rfl <;> omega
  all_goals
    rw [← Nt.sprpK_eq]
    decide +kernel
theorem np561 : ¬ Nt.Pr 561 := fun h => by
  rcases h.2 3 ⟨187, rfl⟩ with e | e <;> omega
theorem root3 {r : Nat} (h : Root 2 7 r) : r = 3 := by
  obtain ⟨h1, h2, h3⟩ := h
  have : r = 0 ∨ r = 1 ∨ r = 2 ∨ r = 3 ∨ r = 4 ∨ r = 5 ∨ r = 6 := by omega
  rcases this with rfl | rfl | rfl | rfl | rfl | rfl | rfl <;> simp at h2 h3 ⊢
/-- true comes back; at most an order was drawn. -/
def RetTQ (w : World) (e : Ending) (w' : World) : Prop := e = .returned (.bool true) ∧ ∃ j, w' = w.drewN j
/-- true comes back; what was there is as it was. -/
def RetT (w : World) (e : Ending) (w' : World) : Prop := e = .returned (.bool true) ∧ Below w.heap.size w w'

end Go.Proofs.YtmgacikdgbedfaaGreatDoor
