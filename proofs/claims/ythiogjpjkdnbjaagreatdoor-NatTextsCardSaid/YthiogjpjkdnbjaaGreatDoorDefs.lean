/- What the functions on numbers return, in plain words. -/
import Derived.Test.YthiogjpjkdnbjaaGreatDoorPlainStr
import Derived.Test.YthiogjpjkdnbjaaGreatDoorWords
namespace Go.Proofs.YthiogjpjkdnbjaaGreatDoor

/-- What Int returns: the number, if it fits. -/
def intRes (n : Nat) : Value := if n ≤ 9223372036854775807 then .tuple #[.int .i64 (n : Int), .bool true] else .tuple #[.int .i64 0, .bool false]
/-- Whether a string has no byte 0 in front. -/
def rightB (s : ByteArray) : Bool := s.data.toList.head? != some 0
/-- What Sub returns. -/
def subRes (m n : Nat) : Value := if n ≤ m then .tuple #[.string (natS (m - n)), .bool true] else .tuple #[.string ⟨#[]⟩, .bool false]
/-- What Quo returns. -/
def quoRes (m n : Nat) : Value := if n = 0 then .tuple #[.string ⟨#[]⟩, .string ⟨#[]⟩, .bool false] else .tuple #[.string (natS (m / n)), .string (natS (m % n)), .bool true]

end Go.Proofs.YthiogjpjkdnbjaaGreatDoor
