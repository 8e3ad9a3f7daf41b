/- Texts read back, and lists ordered by hand, in plain words. -/
import Derived.Test.YtkpinmejfdnhbaaGreatDoorPlainMore
namespace Go.Proofs.YtkpinmejfdnhbaaGreatDoor
open Go.Lib (decDigits)
theorem hex_get : ∀ {l : List UInt8} {i : Nat} {b : UInt8}, l[i]? = some b → (hexL l)[2 * i]? = some (hexD (b.toNat / 16)) ∧ (hexL l)[2 * i + 1]? = some (hexD (b.toNat % 16))
 | [], i, b, h => by simp at h
 | c :: l, 0, b, h => by
   obtain rfl := Option.some.inj h;rw [hexL_cons]; exact ⟨rfl, rfl⟩
 | c :: l, i + 1, b, h => by
   have ih := hex_get (l := l) (i := i) (b := b) (by simpa using h);rw [hexL_cons, show 2 * (i + 1) = 2 * i + 2 by omega];exact ih
theorem hex_get1 {l : List UInt8} {i : Nat} {b : UInt8} (h : l[i]? = some b) : (hexL l)[2 * i]? = some (hexD (b.toNat / 16)) := (hex_get h).1
theorem hex_get2 {l : List UInt8} {i : Nat} {b : UInt8} (h : l[i]? = some b) : (hexL l)[2 * i + 1]? = some (hexD (b.toNat % 16)) := (hex_get h).2
def I64 (z : Int) : Prop := -9223372036854775808 ≤ z ∧ z ≤ 9223372036854775807
theorem decI_of_neg {z : Int} (h : z < 0) : decI z = 45 :: decDigits z.natAbs := by unfold decI; rw [if_pos h]
end Go.Proofs.YtkpinmejfdnhbaaGreatDoor
