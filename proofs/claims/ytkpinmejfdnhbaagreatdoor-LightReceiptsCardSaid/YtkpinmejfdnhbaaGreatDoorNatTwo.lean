/- Joined by a program: NatF, NatG, NatH, Defs, NatI. -/
import Derived.Test.YtkpinmejfdnhbaaGreatDoorNatOne
import Derived.Deep.QuietTactic
import Derived.BigQuiet
import Derived.WalkMore
import Derived.Deep.DeepCutAuto
import Derived.Test.YtkpinmejfdnhbaaGreatDoorPlainAll
import Derived.Deep.RegionWith
namespace Go.Proofs.YtkpinmejfdnhbaaGreatDoor
open Go.RowKit
end Go.Proofs.YtkpinmejfdnhbaaGreatDoor
namespace Go.Proofs.YtkpinmejfdnhbaaGreatDoor
def intRes (n : Nat) : Value := if n ≤ 9223372036854775807 then .tuple #[.int .i64 (n : Int), .bool true] else .tuple #[.int .i64 0, .bool false]
def rightB (s : ByteArray) : Bool := s.data.toList.head? != some 0
def quoRes (m n : Nat) : Value := if n = 0 then .tuple #[.string ⟨#[]⟩, .string ⟨#[]⟩, .bool false] else .tuple #[.string (natS (m / n)), .string (natS (m % n)), .bool true]
end Go.Proofs.YtkpinmejfdnhbaaGreatDoor
namespace Go.Proofs.YtkpinmejfdnhbaaGreatDoor
open Go.RowKit
end Go.Proofs.YtkpinmejfdnhbaaGreatDoor
