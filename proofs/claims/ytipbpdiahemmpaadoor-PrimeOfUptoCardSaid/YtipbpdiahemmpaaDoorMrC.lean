import Derived.Test.YtipbpdiahemmpaaDoorMr2
/- Closed facts of the search, by the kernel. -/
namespace Nt
set_option maxRecDepth 1000000
theorem run5 : allN (fun i => top (6001 + 2 * i)) 10000 = true := by decide +kernel
theorem run6 : allN (fun i => top (26001 + 2 * i)) 20000 = true := by decide +kernel
theorem run7 : allN (fun i => top (66001 + 2 * i)) 16000 = true := by decide +kernel
theorem run8 : allN (fun i => top (98001 + 2 * i)) 16536 = true := by decide +kernel
end Nt
