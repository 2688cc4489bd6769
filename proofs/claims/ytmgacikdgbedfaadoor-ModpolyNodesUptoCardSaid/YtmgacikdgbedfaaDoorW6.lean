/- Tonelli's loop. -/
import Derived.Test.YtmgacikdgbedfaaDoorW5
import Derived.Test.YtmgacikdgbedfaaDoorNt5
namespace Go.Proofs.YtmgacikdgbedfaaDoor
open Go.RowKit Go.IntWalk

end Go.Proofs.YtmgacikdgbedfaaDoor
