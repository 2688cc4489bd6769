/- The laws' walks, first part. -/
import Derived.Test.YtjnhfakdpnnboaaDoorW8
namespace Go.Proofs.YtjnhfakdpnnboaaDoor
open Go.RowKit Go.IntWalk

set_option maxHeartbeats 1000000 in
theorem walk_PrimeNames (w : World) (hT : Tabs w) : Calls Tryd.prog 3 #[] w (RetT w) := by
  go_enter Tryd.func3, Tryd.ntmps3
  go_wp2_with (go_at_call 15; refine (num_any _ _).mono ?_; rintro _ _ ⟨rfl, rfl⟩)
  refine (awake_any _ hT).mono ?_
  rintro _ w1 ⟨rfl, hb⟩
  go_wp2
  go_ret
  exact ⟨rfl, hb⟩
end Go.Proofs.YtjnhfakdpnnboaaDoor
