/- Joined by a program: NatM, NatN, NatO. -/
import Derived.RangeFuncNested
import Derived.RangeFuncBound
import Derived.RangeFuncCalls
import Derived.RangeFuncLeaves
import Derived.Shelf.Abstract
import Derived.Shelf.RegionOpen
import Derived.OwnWalkIn
import Derived.TacticsInMore
import Derived.LoopNIn
import Derived.LoopIn
import Derived.Test.YtkpinmejfdnhbaaGreatDoorNatThree
import Derived.Test.YtkpinmejfdnhbaaGreatDoorPlainAll
import Derived.Deep.QuietTactic
import Derived.BigQuiet
namespace Go.Proofs.YtkpinmejfdnhbaaGreatDoor
open Go.RowKit Go.Shelf
attribute [local go_sem] Oper.semAt_some
end Go.Proofs.YtkpinmejfdnhbaaGreatDoor
namespace Go.Proofs.YtkpinmejfdnhbaaGreatDoor
open Go.RowKit
end Go.Proofs.YtkpinmejfdnhbaaGreatDoor
