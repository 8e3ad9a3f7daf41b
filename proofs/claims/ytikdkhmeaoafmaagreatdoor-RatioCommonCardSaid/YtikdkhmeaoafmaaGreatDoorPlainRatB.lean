/- Sums, products, quotients and the order of rational numbers as the program reckons them, in plain Lean. -/
import Derived.Test.YtikdkhmeaoafmaaGreatDoorPlainRat
namespace Go.Proofs.YtikdkhmeaoafmaaGreatDoor

/-- Whether a number is negative. -/
def negB (x : Rat) : Bool := decide (x.num < 0)
/-- The sign of a number. -/
def sgnQ (x : Rat) : Int := x.num.sign
/-- The comparison of two numbers. -/
def cmpQ (x y : Rat) : Int := sgnQ (x - y)
/-- Numerator and denominator below 256 ^ k. -/
structure Sm (k : Nat) (x : Rat) : Prop where
  num : x.num.natAbs < P8 k
  den : x.den < P8 k

theorem Sm.mono {j k : Nat} {x : Rat} (h : Sm j x) (hk : j ≤ k) : Sm k x :=
  ⟨Nat.lt_of_lt_of_le h.num (Nat.pow_le_pow_right (by omega) hk), Nat.lt_of_lt_of_le h.den (Nat.pow_le_pow_right (by omega) hk)⟩

theorem num_signed (x : Rat) : signed (negB x) x.num.natAbs = x.num := by
  unfold signed negB
  by_cases h : x.num < 0
  · simp only [h, decide_true, if_true]; omega
  · simp only [h, decide_false, Bool.false_eq_true, if_false]; omega
theorem signed_add (g : Bool) (m n : Nat) : signed g (m + n) = signed g m + signed g n := by unfold signed; split <;> omega
theorem signed_sub (g : Bool) {m n : Nat} (h : n ≤ m) : signed g (m - n) = signed g m + signed (!g) n := by cases g <;> simp [signed] <;> omega
theorem signed_mul (g : Bool) (m n : Nat) : signed g (m * n) = signed g m * n := by cases g <;> simp [signed, Int.neg_mul]
theorem signed_mul2 (g k : Bool) (m n : Nat) : signed (g != k) (m * n) = signed g m * signed k n := by cases g <;> cases k <;> simp [signed, Int.neg_mul, Int.mul_neg]

theorem mk_add_same {x y : Rat} (h : negB x = negB y) : mkRat (signed (negB x) (x.num.natAbs * y.den + y.num.natAbs * x.den)) (x.den * y.den) = x + y := by
  rw [signed_add, signed_mul, signed_mul, num_signed x, h, num_signed y, Rat.add_def']
theorem not_eq_of_ne {a b : Bool} (h : a ≠ b) : (!a) = b := by revert h; cases a <;> cases b <;> simp
theorem mk_add_left {x y : Rat} (h : negB x ≠ negB y) (hl : y.num.natAbs * x.den ≤ x.num.natAbs * y.den) : mkRat (signed (negB x) (x.num.natAbs * y.den - y.num.natAbs * x.den)) (x.den * y.den) = x + y := by
  rw [signed_sub _ hl, signed_mul, signed_mul, num_signed x, not_eq_of_ne h, num_signed y, Rat.add_def']
theorem mk_add_right {x y : Rat} (h : negB x ≠ negB y) (hl : x.num.natAbs * y.den ≤ y.num.natAbs * x.den) : mkRat (signed (negB y) (y.num.natAbs * x.den - x.num.natAbs * y.den)) (x.den * y.den) = x + y := by
  rw [signed_sub _ hl, signed_mul, signed_mul, num_signed y, not_eq_of_ne (Ne.symm h), num_signed x, Rat.add_def', Int.add_comm]
theorem mk_mul (x y : Rat) : mkRat (signed (negB x != negB y) (x.num.natAbs * y.num.natAbs)) (x.den * y.den) = x * y := by
  rw [signed_mul2, num_signed x, num_signed y, Rat.mul_def']
theorem sign_den {y : Rat} (h : y.num ≠ 0) : signed (negB y) y.den = y.num.sign * y.den := by
  unfold signed negB
  by_cases h0 : y.num < 0
  · simp only [h0, decide_true, if_true]; rw [Int.sign_eq_neg_one_of_neg h0]; omega
  · simp only [h0, decide_false, Bool.false_eq_true, if_false]; rw [Int.sign_eq_one_of_pos (by omega)]; omega
theorem mk_quo {x y : Rat} (h : y.num ≠ 0) : mkRat (signed (negB x != negB y) (x.num.natAbs * y.den)) (x.den * y.num.natAbs) = x / y := by
  rw [signed_mul2, num_signed x, sign_den h, Rat.div_def, Rat.mul_def', Rat.num_inv, Rat.den_inv, if_neg h]

theorem sgn_mk (n : Int) {d : Nat} (h : d ≠ 0) : sgnQ (mkRat n d) = n.sign := by
  unfold sgnQ
  rw [Rat.num_mkRat, if_neg h]
  have hg : 0 < d.gcd n.natAbs := Nat.gcd_pos_of_pos_left _ (by omega)
  obtain ⟨m, hm⟩ : ((d.gcd n.natAbs : Nat) : Int) ∣ n := Int.dvd_natAbs.1 (Int.natCast_dvd_natCast.2 (Nat.gcd_dvd_right _ _))
  generalize d.gcd n.natAbs = k at hg hm
  subst hm
  rw [Int.mul_ediv_cancel_left _ (by omega), Int.sign_mul, Int.sign_natCast_of_ne_zero (by omega), Int.one_mul]
theorem cmpI_sign (m n : Nat) : cmpI m n = ((m : Int) - n).sign := by
  unfold cmpI
  split
  · rw [Int.sign_eq_neg_one_of_neg (by omega)]
  · split
    · rename_i h; subst h; simp
    · rw [Int.sign_eq_one_of_pos (by omega)]
theorem den_prod (x y : Rat) : x.den * y.den ≠ 0 := Nat.mul_ne_zero x.den_nz y.den_nz
theorem cmpQ_eq (x y : Rat) : cmpQ x y = (x.num * y.den - y.num * x.den).sign := by
  unfold cmpQ
  rw [Rat.sub_def', sgn_mk _ (den_prod x y)]
theorem cmp_pos {x y : Rat} (hx : negB x = false) (hy : negB y = false) : cmpQ x y = cmpI (x.num.natAbs * y.den) (y.num.natAbs * x.den) := by
  rw [cmpQ_eq, cmpI_sign]
  congr 1
  rw [← num_signed x, ← num_signed y, hx, hy]
  simp [signed]
theorem cmp_neg {x y : Rat} (hx : negB x = true) (hy : negB y = true) : cmpQ x y = -cmpI (x.num.natAbs * y.den) (y.num.natAbs * x.den) := by
  rw [cmpQ_eq, cmpI_sign, ← Int.sign_neg]
  congr 1
  rw [← num_signed x, ← num_signed y, hx, hy]
  simp [signed, Int.neg_mul]
  omega
theorem cmp_lo {x y : Rat} (hx : negB x = true) (hy : negB y = false) : cmpQ x y = -1 := by
  unfold negB at hx hy
  have h1 : x.num < 0 := by simpa using hx
  have h2 : 0 ≤ y.num := by simpa using hy
  rw [cmpQ_eq]
  apply Int.sign_eq_neg_one_of_neg
  have h3 : x.num * y.den < 0 := Int.mul_neg_of_neg_of_pos h1 (by have := y.den_pos; omega)
  have h4 : 0 ≤ y.num * x.den := Int.mul_nonneg h2 (by omega)
  omega
theorem cmp_hi {x y : Rat} (hx : negB x = false) (hy : negB y = true) : cmpQ x y = 1 := by
  unfold negB at hx hy
  have h1 : y.num < 0 := by simpa using hy
  have h2 : 0 ≤ x.num := by simpa using hx
  rw [cmpQ_eq]
  apply Int.sign_eq_one_of_pos
  have h3 : y.num * x.den < 0 := Int.mul_neg_of_neg_of_pos h1 (by have := x.den_pos; omega)
  have h4 : 0 ≤ x.num * y.den := Int.mul_nonneg h2 (by omega)
  omega

theorem sgn_zero {x : Rat} : sgnQ x = 0 ↔ x = 0 := by unfold sgnQ; rw [Int.sign_eq_zero_iff_zero, Rat.num_eq_zero]
theorem sgn_neg (x : Rat) : sgnQ (-x) = -sgnQ x := by unfold sgnQ; rw [Rat.neg_num, Int.sign_neg]
theorem sgn_mul (x y : Rat) : sgnQ (x * y) = sgnQ x * sgnQ y := by
  rw [Rat.mul_def', sgn_mk _ (den_prod x y), Int.sign_mul]; rfl
theorem sgn_nonneg {x : Rat} : 0 ≤ sgnQ x ↔ 0 ≤ x := by unfold sgnQ; rw [Int.sign_nonneg_iff, Rat.num_nonneg]
theorem cmp_self (x : Rat) : cmpQ x x = 0 := by unfold cmpQ; rw [Rat.sub_self]; rfl
theorem cmp_swap (x y : Rat) : cmpQ y x = -cmpQ x y := by unfold cmpQ; rw [← sgn_neg, Rat.neg_sub]
theorem cmp_zero {x y : Rat} : cmpQ x y = 0 ↔ x = y := by
  unfold cmpQ; rw [sgn_zero]
  constructor
  · intro h; have := Rat.sub_add_cancel (a := x) (b := y); rw [h, Rat.zero_add] at this; exact this.symm
  · intro h; rw [h, Rat.sub_self]
theorem cmp_trans {x y z : Rat} (h : 0 ≤ cmpQ x y) (k : 0 ≤ cmpQ y z) : 0 ≤ cmpQ x z := by
  unfold cmpQ at *
  rw [sgn_nonneg] at *
  have := Rat.add_nonneg h k
  rw [show x - y + (y - z) = x - z by grind] at this
  exact this
theorem cmp_add (x y z : Rat) : cmpQ (x + z) (y + z) = cmpQ x y := by
  unfold cmpQ; rw [show x + z - (y + z) = x - y by grind]
theorem cmp_mul (x y z : Rat) : cmpQ (x * z) (y * z) = cmpQ x y * sgnQ z := by
  unfold cmpQ; rw [show x * z - y * z = (x - y) * z by grind, sgn_mul]

theorem sm_mk (g : Bool) {n d k : Nat} (hn : n < P8 k) (hd : d < P8 k) (h0 : d ≠ 0) : Sm k (mkRat (signed g n) d) := by
  constructor
  · rw [Rat.num_mkRat, if_neg h0, signed_natAbs, Nat.gcd_comm, signed_ediv (Nat.gcd_dvd_left n d), signed_natAbs]
    exact Nat.lt_of_le_of_lt (Nat.div_le_self _ _) hn
  · rw [Rat.den_mkRat, if_neg h0]
    exact Nat.lt_of_le_of_lt (Nat.div_le_self _ _) hd
theorem sm_zero (k : Nat) (hk : 0 < k) : Sm k 0 := by
  have : P8 1 ≤ P8 k := Nat.pow_le_pow_right (by omega) hk
  have e : P8 1 = 256 := rfl
  constructor
  · show 0 < _; omega
  · show 1 < _; omega
theorem P8_mul_lt {m n j k : Nat} (hm : m < P8 j) (hn : n < P8 k) : m * n < P8 (j + k) := by rw [P8_add]; exact Nat.mul_lt_mul'' hm hn
theorem P8_add_lt {m n k : Nat} (hm : m < P8 k) (hn : n < P8 k) : m + n < P8 (k + 1) := by rw [P8_succ]; omega
theorem P8_up {m j k : Nat} (h : m < P8 j) (hk : j ≤ k) : m < P8 k := Nat.lt_of_lt_of_le h (Nat.pow_le_pow_right (by omega) hk)
theorem Sm.add {j k : Nat} {x y : Rat} (hx : Sm j x) (hy : Sm k y) : Sm (j + k + 1) (x + y) := by
  have h1 := P8_mul_lt hx.num hy.den
  have h2 := P8_mul_lt hy.num hx.den
  rw [Nat.add_comm k j] at h2
  have h3 := P8_up (P8_mul_lt hx.den hy.den) (Nat.le_succ _)
  by_cases h : negB x = negB y
  · rw [← mk_add_same h]
    exact sm_mk _ (P8_add_lt h1 h2) h3 (den_prod x y)
  · rcases Nat.le_total (y.num.natAbs * x.den) (x.num.natAbs * y.den) with hl | hl
    · rw [← mk_add_left h hl]
      exact sm_mk _ (P8_up (Nat.lt_of_le_of_lt (Nat.sub_le _ _) h1) (Nat.le_succ _)) h3 (den_prod x y)
    · rw [← mk_add_right h hl]
      exact sm_mk _ (P8_up (Nat.lt_of_le_of_lt (Nat.sub_le _ _) h2) (Nat.le_succ _)) h3 (den_prod x y)
theorem Sm.neg {k : Nat} {x : Rat} (hx : Sm k x) : Sm k (-x) := ⟨by rw [Rat.neg_num, Int.natAbs_neg]; exact hx.num, hx.den⟩
theorem Sm.sub {j k : Nat} {x y : Rat} (hx : Sm j x) (hy : Sm k y) : Sm (j + k + 1) (x - y) := by rw [Rat.sub_eq_add_neg]; exact hx.add hy.neg
theorem Sm.mul {j k : Nat} {x y : Rat} (hx : Sm j x) (hy : Sm k y) : Sm (j + k) (x * y) := by
  rw [← mk_mul]
  exact sm_mk _ (P8_mul_lt hx.num hy.num) (P8_mul_lt hx.den hy.den) (den_prod x y)
theorem Sm.quo {j k : Nat} {x y : Rat} (hx : Sm j x) (hy : Sm k y) (h : y.num ≠ 0) : Sm (j + k) (x / y) := by
  rw [← mk_quo h]
  exact sm_mk _ (P8_mul_lt hx.num hy.den) (P8_mul_lt hx.den hy.num) (Nat.mul_ne_zero x.den_nz (by omega))
theorem sm_of {g : Bool} {a b : ByteArray} {k : Nat} (ha : a.size ≤ k) (hb : b.size ≤ k) (hk : 0 < k) : Sm k (ratOf g a b) := by
  unfold ratOf
  split
  · rename_i h
    refine sm_mk _ (P8_up (sval_lt a) ha) (P8_up (sval_lt b) hb) ?_
    unfold rRightB at h
    simp only [Bool.and_eq_true, decide_eq_true_eq] at h
    exact fun e => h.1.1.2 ((size_pos_sval h.1.1.1.2).2 e)
  · exact sm_zero k hk

/-- The words of a negated number. -/
theorem ratV_neg (x : Rat) : ratV (-x) = .agg #[.bool (!negB x && decide (x.num ≠ 0)), .string (natS x.num.natAbs), .string (natS x.den)] := by
  unfold ratV negB
  rw [Rat.neg_num, Rat.neg_den, Int.natAbs_neg]
  congr 4
  rcases Int.lt_trichotomy x.num 0 with h | h | h
  · rw [decide_eq_false (show ¬ (-x.num < 0) by omega), decide_eq_true h]; rfl
  · rw [h]; simp
  · rw [decide_eq_true (show -x.num < 0 by omega), decide_eq_false (show ¬ x.num < 0 by omega), decide_eq_true (show x.num ≠ 0 by omega)]; rfl
theorem ratV_inj {x y : Rat} (h : ratV x = ratV y) : x = y := by
  have h1 := (ratOf_words x).2
  have h2 := (ratOf_words y).2
  unfold ratV at h
  simp only [Value.agg.injEq, Array.mk.injEq, List.cons.injEq, Value.bool.injEq, Value.string.injEq, and_true] at h
  rw [← h1, ← h2, h.1, h.2.1, h.2.2]

end Go.Proofs.YtikdkhmeaoafmaaGreatDoor
