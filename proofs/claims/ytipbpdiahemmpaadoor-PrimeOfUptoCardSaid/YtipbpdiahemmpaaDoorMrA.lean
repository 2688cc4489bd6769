import Derived.Test.YtipbpdiahemmpaaDoorMr2
/- Closed facts of the search, by the kernel. -/
namespace Nt
set_option maxRecDepth 1000000
theorem tab_ok : allL (fun x => chkL x.1 x.2) tab = true := by decide +kernel
theorem tab_full : full 2040 17 tab = true := by decide +kernel
theorem run_small : allL (fun q => bif Nat.ble 17 q then (bif Nat.beq q 61 then true else top0 q) else true) small = true := by decide +kernel
theorem run1 : allN (fun i => top (369 + 2 * i)) 316 = true := by decide +kernel
end Nt
