/- The examples that each law holds; 'num', 'told'. -/
import Derived.Test.YtipbpdiahemmpaaDoorW7
import Derived.Deep.RegionWith
namespace Go.Proofs.YtipbpdiahemmpaaDoor
open Go.RowKit Go.IntWalk

theorem pr7 : Nt.Pr 7 := Nt.seven_pr 7 (by simp [Nt.seven])
theorem prBig : Nt.Pr 4294967291 := by
  rw [← Nt.isP_iff]
  refine Nt.isP_pass (s := 1) (d := 2147483645) (by omega) (by omega) (fun q hq => ?_) (by omega) (by omega) ?_ ?_ ?_
  · simp only [Nt.seven, List.mem_cons, List.not_mem_nil, or_false] at hq
    rcases hq with rfl | rfl | rfl | rfl | rfl | rfl | rfl <;> omega
  all_goals
    rw [← Nt.sprpK_eq]
    decide +kernel
theorem np561 : ¬ Nt.Pr 561 := fun h => by
  rcases h.2 3 ⟨187, rfl⟩ with e | e <;> omega
theorem root3 {r : Nat} (h : Root 2 7 r) : r = 3 := by
  obtain ⟨h1, h2, h3⟩ := h
  have : r = 0 ∨ r = 1 ∨ r = 2 ∨ r = 3 ∨ r = 4 ∨ r = 5 ∨ r = 6 := by omega
  rcases this with rfl | rfl | rfl | rfl | rfl | rfl | rfl <;> simp at h2 h3 ⊢
/-- true comes back; at most an order was drawn. -/
def RetTQ (w : World) (e : Ending) (w' : World) : Prop := e = .returned (.bool true) ∧ ∃ j, w' = w.drewN j
/-- true comes back; what was there is as it was. -/
def RetT (w : World) (e : Ending) (w' : World) : Prop := e = .returned (.bool true) ∧ Below w.heap.size w w'

set_option maxHeartbeats 400000 in
theorem num_any (c : Int) (w : World) : Calls Tryd.prog 19 #[.int .i64 c] w fun e w' => e = .returned (.int .i64 c) ∧ w = w' := by
  go_enter Tryd.func19, Tryd.ntmps19
  go_wp2
  go_ret
  exact ⟨rfl, rfl⟩
set_option maxHeartbeats 2000000 in
theorem awake_q (w : World) (hT : Tabs w) : Calls Tryd.prog 9 #[] w (RetTQ w) := by
  go_enter Tryd.func9, Tryd.ntmps9
  go_wp2_with fail
  refine (inv_ok 3 7 rfl rfl (by omega) (by omega) pr7 (by omega) _ hT).mono ?_
  rintro _ _ ⟨v, rfl, hv, j1, rfl⟩
  obtain rfl : v = 5 := hv.out
  have hT1 := hT.drewN j1
  go_wp2_with fail
  refine (sqrt_ok 2 7 rfl rfl (by omega) (by omega) pr7 (by decide) _ hT1).mono ?_
  rintro _ _ ⟨r, rfl, hr, j2, rfl⟩
  obtain rfl : r = 3 := root3 hr.out
  have hT2 := hT.drewN (j1 + j2)
  go_wp2_with (go_at_call 19; refine (num_any _ _).mono ?_; rintro _ _ ⟨rfl, rfl⟩)
  refine (is_true (n := 4294967291) prBig rfl (by omega) _ hT2).mono ?_
  rintro _ _ ⟨rfl, rfl⟩
  go_wp2_with fail
  refine (is_false (n := 561) np561 rfl (by omega) _ hT2).mono ?_
  rintro _ _ ⟨rfl, rfl⟩
  go_wp2_with fail
  go_ret
  exact ⟨rfl, _, rfl⟩
theorem awake_any (w : World) (hT : Tabs w) : Calls Tryd.prog 9 #[] w (RetT w) :=
  (awake_q w hT).mono fun _ _ ⟨h, j, hj⟩ => ⟨h, by rw [hj]; exact below_quiet w j⟩
end Go.Proofs.YtipbpdiahemmpaaDoor
