/- Pow: powers modulo any number. -/
import Derived.Test.YtkpinmejfdnhbaaGreatDoorNatP
import Derived.Stop.RegionWithIn
namespace Go.Proofs.YtkpinmejfdnhbaaGreatDoor
open Go.RowKit Go.Shelf
attribute [local go_sem] Oper.semAt_some
end Go.Proofs.YtkpinmejfdnhbaaGreatDoor
