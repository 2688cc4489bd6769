import Derived.Test.YtipbpdiahemmpaaDoorMr2
/- Closed facts of the search, by the kernel. -/
namespace Nt
set_option maxRecDepth 1000000
theorem low1 : allN (fun i => low (3 + 2 * i)) 8000 = true := by decide +kernel
theorem low2 : allN (fun i => low (16003 + 2 * i)) 5000 = true := by decide +kernel
theorem low3 : allN (fun i => low (26003 + 2 * i)) 3383 = true := by decide +kernel
end Nt
