/- Tonelli's loop. -/
import Derived.Test.YtmgacikdgbedfaaGreatDoorW5
import Derived.Test.YtmgacikdgbedfaaGreatDoorNt5
namespace Go.Proofs.YtmgacikdgbedfaaGreatDoor
open Go.RowKit Go.IntWalk

end Go.Proofs.YtmgacikdgbedfaaGreatDoor
