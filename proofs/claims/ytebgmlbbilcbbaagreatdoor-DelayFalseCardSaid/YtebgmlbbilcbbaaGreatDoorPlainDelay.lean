/- The delay in plain words. -/
import Derived.Test.YtebgmlbbilcbbaaGreatDoorPlainAll
import Derived.Test.YtebgmlbbilcbbaaGreatDoorPlainPrime
import Derived.Test.YtebgmlbbilcbbaaGreatDoorPlainSha
namespace Go.Proofs.YtebgmlbbilcbbaaGreatDoor
open Go.Lib (decDigits)

/-- The modulus of the delay. -/
def modN : Nat := 0x8a00b0daa28744d6a4c3c624546e4b59
/-- The modulus as a string. -/
def modS : ByteArray := ⟨#[0x8a, 0x00, 0xb0, 0xda, 0xa2, 0x87, 0x44, 0xd6, 0xa4, 0xc3, 0xc6, 0x24, 0x54, 0x6e, 0x4b, 0x59]⟩
theorem sval_modS : sval modS = modN := by decide +kernel
theorem modN_pos : 0 < modN := by decide
theorem modN_lt : modN < P8 16 := by decide +kernel
theorem mod_lt (n : Nat) : n % modN < modN := Nat.mod_lt _ modN_pos
/-- What a number leads to after some squarings. -/
def ranN (n : Nat) : Nat → Nat
  | 0 => n % modN
  | t + 1 => ranN n t * ranN n t % modN
theorem ranN_lt (n : Nat) : ∀ t, ranN n t < modN
  | 0 => mod_lt _
  | _ + 1 => mod_lt _
theorem ranN_mod (n : Nat) : ∀ t, ranN (n % modN) t = ranN n t
  | 0 => Nat.mod_mod _ _
  | t + 1 => by show ranN (n % modN) t * ranN (n % modN) t % modN = _; rw [ranN_mod n t]; rfl
theorem sq_mod (n : Nat) : (n % modN) * (n % modN) % modN = n * n % modN := (Nat.mul_mod n n modN).symm
/-- The text of a challenge. -/
def chalL (x y m t : Nat) : List UInt8 := [100, 101, 108, 97, 121, 47] ++ (decDigits x ++ 47 :: (decDigits y ++ 47 :: (decDigits m ++ 47 :: decDigits t)))
/-- A challenge. -/
def chalN (x y m t : Nat) : Nat := bv ((shaS (chalL x y m t)).take 8)
/-- The two numbers of a halving. -/
def halveN (x y m t : Nat) : Nat × Nat := (m * pm modN 64 x (chalN x y m t) % modN, y * pm modN 64 m (chalN x y m t) % modN)
/-- Halvings, one after the other. -/
def chainN : Nat → Nat → Nat → List Nat → Nat × Nat
  | x, y, _, [] => (x, y)
  | x, y, t, m :: ms => chainN (halveN x y m t).1 (halveN x y m t).2 (t / 2) ms
/-- The middles of a proof of 2 ^ n steps. -/
def midsN : Nat → Nat → Nat → Nat → List Nat
  | 0, _, _, _ => []
  | n + 1, x, y, t => ranN x (t / 2) :: midsN n (halveN x y (ranN x (t / 2)) t).1 (halveN x y (ranN x (t / 2)) t).2 (t / 2)
/-- The logarithm of a number of steps. -/
def logT (t : Int) : Option Nat := (List.range 21).find? fun n => t == ((2 ^ n : Nat) : Int)
/-- Whether a string is a reduced number. -/
def redB (s : ByteArray) : Bool := rightL s.data.toList && decide (sval s < modN)
where rightL (l : List UInt8) : Bool := l.head? != some 0
/-- Whether middles prove an end. -/
def verB (x y : ByteArray) (t : Int) (ms : List ByteArray) : Bool :=
  match logT t with
  | none => false
  | some n => redB x && redB y && ms.all redB && decide (ms.length = n) && decide ((chainN (sval x) (sval y) (2 ^ n) (ms.map sval)).1 * (chainN (sval x) (sval y) (2 ^ n) (ms.map sval)).1 % modN = (chainN (sval x) (sval y) (2 ^ n) (ms.map sval)).2)

theorem chal_lt (x y m t : Nat) : chalN x y m t < 2 ^ 64 := by
  have h := bv_lt ((shaS (chalL x y m t)).take 8)
  rw [List.length_take, sha_len] at h
  exact h
theorem halve_eq (x y m t : Nat) : halveN x y m t = (m * (x ^ chalN x y m t % modN) % modN, y * (m ^ chalN x y m t % modN) % modN) := by
  unfold halveN
  rw [pm_eq _ _ _ _ (chal_lt x y m t), pm_eq _ _ _ _ (chal_lt x y m t)]
theorem halve_lt (x y m t : Nat) : (halveN x y m t).1 < modN ∧ (halveN x y m t).2 < modN := ⟨mod_lt _, mod_lt _⟩

end Go.Proofs.YtebgmlbbilcbbaaGreatDoor
