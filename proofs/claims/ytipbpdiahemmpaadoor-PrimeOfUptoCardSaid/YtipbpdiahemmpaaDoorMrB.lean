import Derived.Test.YtipbpdiahemmpaaDoorMr2
/- Closed facts of the search, by the kernel. -/
namespace Nt
set_option maxRecDepth 1000000
theorem run2 : allN (fun i => top (1001 + 2 * i)) 250 = true := by decide +kernel
theorem run3 : allN (fun i => top (1501 + 2 * i)) 750 = true := by decide +kernel
theorem run4 : allN (fun i => top (3001 + 2 * i)) 1500 = true := by decide +kernel
end Nt
