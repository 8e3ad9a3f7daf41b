/-
  Plain facts on binary digits and powers. No program in sight.
-/
import Derived.Test.YthiogjpjkdnbjaaGreatDoorPlainStr
namespace Go.Proofs.YthiogjpjkdnbjaaGreatDoor

/-- A binary digit. -/
def bitB (v i : Nat) : Bool := v / 2 ^ i % 2 == 1

/-- The number with these binary digits, the most significant one first. -/
def hornerB (l : List Bool) : Nat := l.foldl (fun a b => 2 * a + (if b then 1 else 0)) 0
theorem hornerB_snoc (l : List Bool) (b : Bool) : hornerB (l ++ [b]) = 2 * hornerB l + (if b then 1 else 0) := by simp [hornerB]

/-- The first k of n binary digits of v, the most significant one first. -/
def bitsTo (v n k : Nat) : List Bool := (List.range k).map fun j => bitB v (n - 1 - j)
theorem bitsTo_zero (v n : Nat) : bitsTo v n 0 = [] := rfl
theorem bitsTo_succ (v n k : Nat) : bitsTo v n (k + 1) = bitsTo v n k ++ [bitB v (n - 1 - k)] := by simp [bitsTo, List.range_succ]
theorem bitsTo_length (v n k : Nat) : (bitsTo v n k).length = k := by simp [bitsTo]

theorem horner_bits {v n : Nat} (hn : v < 2 ^ n) : ∀ k, k ≤ n → hornerB (bitsTo v n k) = v / 2 ^ (n - k)
  | 0, _ => by
    rw [bitsTo_zero, Nat.sub_zero, Nat.div_eq_of_lt hn]
    rfl
  | k + 1, hk => by
    rw [bitsTo_succ, hornerB_snoc, horner_bits hn k (by omega)]
    have e : n - k = (n - (k + 1)) + 1 := by omega
    rw [show n - 1 - k = n - (k + 1) by omega, e, Nat.pow_succ, ← Nat.div_div_eq_div_mul]
    unfold bitB
    generalize v / 2 ^ (n - (k + 1)) = q
    by_cases h : q % 2 = 1
    · simp [h]; omega
    · simp [h]; omega

/-- The binary digits of a number. -/
def binL (v : Nat) : List Bool := bitsTo v (bitsN v) (bitsN v)
theorem lt_bitsN (v : Nat) : v < 2 ^ bitsN v := by
  by_cases h : v = 0
  · subst h; rw [bitsN_zero]; decide
  · obtain ⟨k, hk, _, h2⟩ := bitsN_bounds h
    rw [hk]; exact h2
theorem horner_binL (v : Nat) : hornerB (binL v) = v := by
  unfold binL
  rw [horner_bits (lt_bitsN v) _ (Nat.le_refl _), Nat.sub_self, Nat.pow_zero, Nat.div_one]
theorem binL_length (v : Nat) : (binL v).length = bitsN v := bitsTo_length _ _ _

theorem bitsN_le {v k : Nat} (h : v < 2 ^ k) : bitsN v ≤ k := by
  by_cases h0 : v = 0
  · subst h0; rw [bitsN_zero]; exact Nat.zero_le _
  · obtain ⟨j, hj, h1, _⟩ := bitsN_bounds h0
    rw [hj]
    rcases Nat.lt_or_ge j k with h2 | h2
    · exact h2
    · have : 2 ^ k ≤ 2 ^ j := Nat.pow_le_pow_right (by omega) h2
      omega

/-- A byte of a string's value. -/
theorem byte_lv : ∀ (r : List UInt8) (i : Nat) (b : UInt8), r[i]? = some b → lv r / P8 i % 256 = b.toNat
  | [], i, b, h => by simp at h
  | x :: t, 0, b, h => by
    simp at h
    subst h
    have := x.toNat_lt
    rw [lv, P8_zero, Nat.div_one]
    omega
  | x :: t, i + 1, b, h => by
    have := x.toNat_lt
    rw [lv, P8_succ, ← Nat.div_div_eq_div_mul, show (x.toNat + 256 * lv t) / 256 = lv t by omega]
    exact byte_lv t i b (by simpa using h)

theorem bit_byte {v i b : Nat} (h : v / P8 (i / 8) % 256 = b) : bitB v i = (b / 2 ^ (i % 8) % 2 == 1) := by
  have e : 2 ^ i = P8 (i / 8) * 2 ^ (i % 8) := by rw [P8_two, ← Nat.pow_add]; congr 1; omega
  unfold bitB
  rw [e, ← Nat.div_div_eq_div_mul]
  generalize v / P8 (i / 8) = q at h
  have hr : i % 8 < 8 := Nat.mod_lt _ (by omega)
  generalize i % 8 = r at hr
  have key : q / 2 ^ r % 2 = b / 2 ^ r % 2 := by
    subst h
    match r, hr with
    | 0, _ => simp only [Nat.pow_zero]; omega
    | 1, _ => simp only [Nat.pow_one]; omega
    | 2, _ => rw [show (2 : Nat) ^ 2 = 4 by rfl]; omega
    | 3, _ => rw [show (2 : Nat) ^ 3 = 8 by rfl]; omega
    | 4, _ => rw [show (2 : Nat) ^ 4 = 16 by rfl]; omega
    | 5, _ => rw [show (2 : Nat) ^ 5 = 32 by rfl]; omega
    | 6, _ => rw [show (2 : Nat) ^ 6 = 64 by rfl]; omega
    | 7, _ => rw [show (2 : Nat) ^ 7 = 128 by rfl]; omega
  rw [key]

/-! ### powers -/
theorem pow_step_sq (a e m : Nat) : (a ^ e % m) * (a ^ e % m) % m = a ^ (2 * e) % m := by
  rw [← Nat.mul_mod, ← Nat.pow_add, show e + e = 2 * e by omega]
theorem pow_step_mul (a e m : Nat) : (a ^ e % m) * (a % m) % m = a ^ (e + 1) % m := by
  rw [← Nat.mul_mod, ← Nat.pow_succ]
theorem pow_base (a e m : Nat) : (a % m) ^ e % m = a ^ e % m := (Nat.pow_mod a e m).symm

end Go.Proofs.YthiogjpjkdnbjaaGreatDoor
