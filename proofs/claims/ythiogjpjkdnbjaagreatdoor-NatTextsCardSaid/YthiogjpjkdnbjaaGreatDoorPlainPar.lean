/- Plain facts on reading decimal digits. No program in sight. -/
import Derived.Test.YthiogjpjkdnbjaaGreatDoorPlainDec
import Derived.Test.YthiogjpjkdnbjaaGreatDoorPlainStr
import Derived.Lib.Atoi
namespace Go.Proofs.YthiogjpjkdnbjaaGreatDoor
open Go.Lib

/-- Whether a byte is a decimal digit. -/
def isD (b : UInt8) : Bool := decide (48 ≤ b.toNat) && decide (b.toNat ≤ 57)
/-- The number that digits spell. -/
def dval (l : List UInt8) : Nat := l.foldl (fun a b => a * 10 + (b.toNat - 48)) 0
/-- Whether a row of bytes is the text of a number. -/
def goodD (l : List UInt8) : Bool := !l.isEmpty && !(decide (1 < l.length) && (l.head? == some 48)) && l.all isD

theorem isD_iff {b : UInt8} : isD b = true ↔ 48 ≤ b.toNat ∧ b.toNat ≤ 57 := by simp [isD]
theorem dval_nil : dval [] = 0 := rfl
theorem dval_snoc (l : List UInt8) (b : UInt8) : dval (l ++ [b]) = dval l * 10 + (b.toNat - 48) := by simp [dval]
theorem fold_dval : ∀ (b : List UInt8) (n : Nat), b.foldl (fun a b => a * 10 + (b.toNat - 48)) n = n * 10 ^ b.length + dval b
  | [], n => by simp [dval]
  | x :: b, n => by
    unfold dval
    rw [List.foldl_cons, List.foldl_cons, fold_dval b, fold_dval b, List.length_cons, Nat.pow_succ, Nat.add_mul, Nat.zero_mul, Nat.zero_add, Nat.mul_assoc, Nat.mul_comm 10, Nat.add_assoc]
theorem dval_append (a b : List UInt8) : dval (a ++ b) = dval a * 10 ^ b.length + dval b := by
  conv => lhs; unfold dval
  rw [List.foldl_append, fold_dval]
  rfl
theorem dval_lt : ∀ (l : List UInt8), l.all isD = true → dval l < 10 ^ l.length := by
  intro l
  induction l with
  | nil => intro _; simp [dval]
  | cons x l ih =>
    intro h
    rw [List.all_cons, Bool.and_eq_true] at h
    have h1 := isD_iff.1 h.1
    have h2 := ih h.2
    have e : dval (x :: l) = (x.toNat - 48) * 10 ^ l.length + dval l := by
      rw [show x :: l = [x] ++ l from rfl, dval_append]; simp [dval]
    rw [e, List.length_cons, Nat.pow_succ]
    have h3 : (x.toNat - 48) * 10 ^ l.length ≤ 9 * 10 ^ l.length := Nat.mul_le_mul_right _ (by omega)
    omega
theorem ten_le_P8 (k : Nat) : 10 ^ k ≤ P8 k := by
  induction k with
  | zero => exact Nat.le_refl _
  | succ k ih => rw [Nat.pow_succ, P8_succ]; omega
theorem dval_lt8 (l : List UInt8) (h : l.all isD = true) : dval l < P8 l.length := Nat.lt_of_lt_of_le (dval_lt l h) (ten_le_P8 _)

theorem decFrom_eq : ∀ (l : List UInt8) (acc : Nat), l.all isD = true → decFrom acc l = some (acc * 10 ^ l.length + dval l) := by
  intro l
  induction l with
  | nil => intro acc _; simp [decFrom, dval]
  | cons x l ih =>
    intro acc h
    rw [List.all_cons, Bool.and_eq_true] at h
    have h1 := isD_iff.1 h.1
    unfold decFrom digitVal
    rw [if_pos h1]
    simp only []
    rw [ih _ h.2, ← fold_dval, ← fold_dval (x :: l)]
    rfl
theorem atoi_eq (l : List UInt8) (hne : l ≠ []) (h : l.all isD = true) : atoi l = some (dval l : Int) := by
  cases l with
  | nil => exact absurd rfl hne
  | cons x l =>
    have h0 := h
    rw [List.all_cons, Bool.and_eq_true] at h
    have h1 := isD_iff.1 h.1
    have n1 : (x == 45) = false := by rw [beq_eq_false_iff_ne]; rintro rfl; exact absurd h1.1 (by decide)
    have n2 : (x == 43) = false := by rw [beq_eq_false_iff_ne]; rintro rfl; exact absurd h1.1 (by decide)
    unfold atoi
    simp only [n1, n2, Bool.false_eq_true, if_false]
    unfold decNat
    rw [if_neg (by simp), decFrom_eq _ _ h0]
    simp

theorem dig_byte {r : Nat} (h : r < 10) : (UInt8.ofNat (48 + r)).toNat = 48 + r := by
  rw [UInt8.toNat_ofNat']; omega
theorem dec_all (n : Nat) : (decDigits n).all isD = true := by
  induction n using Nat.strongRecOn with
  | _ n ih =>
    by_cases h : n < 10
    · rw [decDigits_one h]
      simp only [List.all_cons, List.all_nil, Bool.and_true]
      rw [isD_iff, dig_byte h]
      omega
    · rw [dec_ten h, List.all_append, ih _ (by omega)]
      simp only [List.all_cons, List.all_nil, Bool.and_true, Bool.true_and]
      rw [isD_iff, dig_byte (Nat.mod_lt _ (by omega))]
      omega
theorem dec_val (n : Nat) : dval (decDigits n) = n := by
  induction n using Nat.strongRecOn with
  | _ n ih =>
    by_cases h : n < 10
    · rw [decDigits_one h, show [UInt8.ofNat (48 + n)] = [] ++ [UInt8.ofNat (48 + n)] from rfl, dval_snoc, dig_byte h, dval_nil]; omega
    · rw [dec_ten h, dval_snoc, ih _ (by omega), dig_byte (Nat.mod_lt _ (by omega))]; omega
theorem dec_ne (n : Nat) : decDigits n ≠ [] := by
  by_cases h : n < 10
  · rw [decDigits_one h]; simp
  · rw [dec_ten h]; simp
theorem dec_head (n : Nat) (h0 : 0 < n) : (decDigits n).head? ≠ some 48 := by
  induction n using Nat.strongRecOn with
  | _ n ih =>
    by_cases h : n < 10
    · rw [decDigits_one h]
      intro e
      have e2 := congrArg UInt8.toNat (Option.some.inj e)
      rw [dig_byte h] at e2
      have : (48 : UInt8).toNat = 48 := rfl
      omega
    · obtain ⟨x, t, e⟩ := List.exists_cons_of_ne_nil (dec_ne (n / 10))
      have h2 := ih (n / 10) (by omega) (by omega)
      rw [dec_ten h]
      rw [e] at h2 ⊢
      exact h2
theorem dec_good (n : Nat) : goodD (decDigits n) = true := by
  unfold goodD
  rw [dec_all]
  have h1 : (decDigits n).isEmpty = false := by rw [List.isEmpty_eq_false_iff]; exact dec_ne n
  rw [h1]
  by_cases h : n < 10
  · rw [decDigits_one h]; rfl
  · have h2 : ((decDigits n).head? == some 48) = false := by rw [beq_eq_false_iff_ne]; exact dec_head n (by omega)
    rw [h2]; simp

/-- The value of a row of digits and a group of digits behind it. -/
theorem group_val {a g : List UInt8} (h : a = [] ∨ g.length = 9) : dval (a ++ g) = dval a * 1000000000 + dval g := by
  rw [dval_append]
  rcases h with rfl | h
  · simp [dval]
  · rw [h]

/-- What Parse returns. -/
theorem all_take {l : List UInt8} (h : l.all isD = true) (k : Nat) : (l.take k).all isD = true := by
  rw [List.all_eq_true] at h ⊢
  exact fun x hx => h x (List.mem_of_mem_take hx)
theorem all_drop {l : List UInt8} (h : l.all isD = true) (k : Nat) : (l.drop k).all isD = true := by
  rw [List.all_eq_true] at h ⊢
  exact fun x hx => h x (List.mem_of_mem_drop hx)

end Go.Proofs.YthiogjpjkdnbjaaGreatDoor
