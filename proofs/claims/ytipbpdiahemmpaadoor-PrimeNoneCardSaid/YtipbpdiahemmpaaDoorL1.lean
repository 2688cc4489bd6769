/- The laws' walks, first part. -/
import Derived.Test.YtipbpdiahemmpaaDoorW8
namespace Go.Proofs.YtipbpdiahemmpaaDoor
open Go.RowKit Go.IntWalk

end Go.Proofs.YtipbpdiahemmpaaDoor
