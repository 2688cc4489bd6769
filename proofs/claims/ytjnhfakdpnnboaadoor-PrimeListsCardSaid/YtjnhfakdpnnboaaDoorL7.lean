/- The laws' walks: every number; the primes next to it. -/
import Derived.Test.YtjnhfakdpnnboaaDoorW15
namespace Go.Proofs.YtjnhfakdpnnboaaDoor
open Go.RowKit Go.IntWalk

set_option maxHeartbeats 1000000 in
theorem walk_PrimeIs (p : Nat) (hp : p < 4294967296) (w : World) (hT : Tabs w) :
    Calls Tryd.prog 9 #[.int .u32 p] w (RetT w) := by
  go_enter Tryd.func9, Tryd.ntmps9
  go_wp2_with fail
  refine (next_any p hp _ hT).mono ?_
  rintro _ w1 ⟨a, b, rfl, hab, hb1⟩
  have hT1 := hT.below hb1
  go_wp2_with fail
  refine (refNext_any p rfl hp _).mono ?_
  rintro _ _ ⟨a', b', rfl, hab', rfl⟩
  obtain ⟨rfl, rfl⟩ := hab.out.unique hab'.out
  go_wp2_with fail
  refine (Last_any p rfl hp _ hT1).mono ?_
  rintro _ _ ⟨c, d, rfl, hcd, rfl⟩
  go_wp2_with fail
  refine (refLast_any p rfl hp _).mono ?_
  rintro _ _ ⟨c', d', rfl, hcd', rfl⟩
  obtain ⟨rfl, rfl⟩ := hcd.out.unique hcd'.out
  go_wp2_with fail
  refine (is_any p rfl hp _ hT1).mono ?_
  rintro _ _ ⟨rfl, rfl⟩
  go_wp2_with fail
  refine (refIs_any p rfl hp _).mono ?_
  rintro _ _ ⟨rfl, rfl⟩
  go_wp2_with fail
  refine (awake_any _ hT1).mono ?_
  rintro _ w2 ⟨rfl, hb2⟩
  go_wp2
  go_ret
  exact ⟨rfl, hb1.trans (hb2.mono hb1.size)⟩
end Go.Proofs.YtjnhfakdpnnboaaDoor
