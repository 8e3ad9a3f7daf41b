/- Plain facts on decimal digits. No program in sight. -/
import Derived.Lib.ItoaNum
namespace Go.Proofs.YthiogjpjkdnbjaaGreatDoor
open Go.Lib

/-- The last k decimal digits of r. -/
def padD : Nat → Nat → List UInt8
  | 0, _ => []
  | k + 1, r => padD k (r / 10) ++ [UInt8.ofNat (48 + r % 10)]

theorem dec_ten {u : Nat} (h : ¬ u < 10) : decDigits u = decDigits (u / 10) ++ [UInt8.ofNat (48 + u % 10)] := by
  conv => lhs; rw [decDigits]
  rw [dif_neg h]

theorem dec_split : ∀ (k q r : Nat), 0 < q → r < 10 ^ k → decDigits (q * 10 ^ k + r) = decDigits q ++ padD k r
  | 0, q, r, _, hr => by
    have : r = 0 := by simpa using hr
    subst this
    simp [padD]
  | k + 1, q, r, hq, hr => by
    rw [Nat.pow_succ] at hr
    have hp : 0 < 10 ^ k := Nat.pow_pos (by omega)
    have hge : 10 ≤ q * 10 ^ (k + 1) := by
      rw [Nat.pow_succ, ← Nat.mul_assoc]
      have := Nat.mul_pos hq hp
      omega
    have e : q * 10 ^ (k + 1) = (q * 10 ^ k) * 10 := by rw [Nat.pow_succ, Nat.mul_assoc]
    rw [dec_ten (by omega), e, show (q * 10 ^ k * 10 + r) / 10 = q * 10 ^ k + r / 10 by omega, show (q * 10 ^ k * 10 + r) % 10 = r % 10 by omega]
    rw [dec_split k q (r / 10) hq (by omega), List.append_assoc]
    rfl

theorem dec_len : ∀ (k r : Nat), r < 10 ^ (k + 1) → (decDigits r).length ≤ k + 1 ∧ 0 < (decDigits r).length
  | 0, r, h => by rw [decDigits_one (by simpa using h)]; simp
  | k + 1, r, h => by
    by_cases h1 : r < 10
    · rw [decDigits_one h1]; simp
    · rw [dec_ten h1]
      rw [Nat.pow_succ] at h
      have := dec_len k (r / 10) (by omega)
      simp
      omega

theorem pad_small : ∀ (k r : Nat), r < 10 ^ (k + 1) → padD (k + 1) r = List.replicate (k + 1 - (decDigits r).length) 48 ++ decDigits r
  | 0, r, h => by
    have h1 : r < 10 := by simpa using h
    rw [decDigits_one h1]
    simp [padD, Nat.mod_eq_of_lt h1]
  | k + 1, r, h => by
    have h2 : r / 10 < 10 ^ (k + 1) := by rw [Nat.pow_succ] at h; omega
    rw [padD, pad_small k (r / 10) h2]
    by_cases h1 : r < 10
    · rw [decDigits_one h1, show r / 10 = 0 by omega, decDigits_one (by omega), Nat.mod_eq_of_lt h1]
      rw [show k + 1 + 1 - [UInt8.ofNat (48 + r)].length = (k + 1 - [UInt8.ofNat (48 + 0)].length) + 1 by simp, List.replicate_succ']
      rfl
    · rw [dec_ten h1, List.append_assoc]
      congr 2
      rw [List.length_append]
      simp

/-- Groups of nine digits: the last of them first. -/
theorem dec_group {X : Nat} (h : 1000000000 ≤ X) : decDigits X = decDigits (X / 1000000000) ++ (List.replicate (9 - (decDigits (X % 1000000000)).length) 48 ++ decDigits (X % 1000000000)) := by
  have hr : X % 1000000000 < 10 ^ 9 := Nat.mod_lt _ (by omega)
  have e : X = X / 1000000000 * 10 ^ 9 + X % 1000000000 := by rw [show (10 : Nat) ^ 9 = 1000000000 by rfl, Nat.mul_comm]; exact (Nat.div_add_mod X 1000000000).symm
  conv => lhs; rw [e]
  rw [dec_split 9 _ _ (by omega) hr, pad_small 8 _ hr]

end Go.Proofs.YthiogjpjkdnbjaaGreatDoor
