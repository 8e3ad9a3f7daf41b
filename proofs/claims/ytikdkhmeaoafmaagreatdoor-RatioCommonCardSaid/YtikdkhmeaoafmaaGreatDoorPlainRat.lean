/- Rational numbers as the program lays them: plain facts on the library's Rat. -/
import Derived.Test.YtikdkhmeaoafmaaGreatDoorRefThree
namespace Go.Proofs.YtikdkhmeaoafmaaGreatDoor

/-- A numerator with its sign. -/
def signed (g : Bool) (n : Nat) : Int := if g = true then -(n : Int) else (n : Int)
/-- A rational number as an api.Rat. -/
def ratV (x : Rat) : Value := .agg #[.bool (decide (x.num < 0)), .string (natS x.num.natAbs), .string (natS x.den)]
/-- Whether an api.Rat is right. -/
def rRightB (g : Bool) (a b : ByteArray) : Bool := rightB a && rightB b && decide (b.size ≠ 0) && !(decide (a.size = 0) && g) && decide (Nat.gcd (sval a) (sval b) = 1)
/-- The number of an api.Rat; 0 if it is not right. -/
def ratOf (g : Bool) (a b : ByteArray) : Rat := if rRightB g a b = true then mkRat (signed g (sval a)) (sval b) else 0

theorem signed_natAbs (g : Bool) (n : Nat) : (signed g n).natAbs = n := by unfold signed; split <;> simp
theorem signed_neg {g : Bool} {n : Nat} (h : n ≠ 0) : decide (signed g n < 0) = g := by
  unfold signed
  cases g
  · simp
  · simp; omega
theorem signed_zero (g : Bool) : signed g 0 = 0 := by unfold signed; split <;> simp
theorem signed_ediv {g : Bool} {n k : Nat} (h : k ∣ n) : signed g n / (k : Int) = signed g (n / k) := by
  unfold signed
  split
  · rw [Int.neg_ediv_of_dvd (Int.natCast_dvd_natCast.2 h)]; simp
  · simp

/-- The words of a number in lowest terms. -/
theorem ratV_mk (g : Bool) {n d : Nat} (hd : d ≠ 0) :
    ratV (mkRat (signed g n) d) = .agg #[.bool (g && decide (n ≠ 0)), .string (natS (n / Nat.gcd n d)), .string (natS (d / Nat.gcd n d))] := by
  have hg : 0 < Nat.gcd n d := Nat.gcd_pos_of_pos_right _ (by omega)
  have h1 : (mkRat (signed g n) d).num = signed g (n / Nat.gcd n d) := by
    rw [Rat.num_mkRat, if_neg hd, signed_natAbs, Nat.gcd_comm, signed_ediv (Nat.gcd_dvd_left n d)]
  have h2 : (mkRat (signed g n) d).den = d / Nat.gcd n d := by
    rw [Rat.den_mkRat, if_neg hd, signed_natAbs, Nat.gcd_comm]
  unfold ratV
  rw [h1, h2, signed_natAbs]
  congr 4
  by_cases h0 : n = 0
  · subst h0
    rw [Nat.zero_div, signed_zero]
    simp
  · have h3 : n / Nat.gcd n d ≠ 0 := by
      have := Nat.div_pos (Nat.le_of_dvd (by omega) (Nat.gcd_dvd_left n d)) hg
      omega
    rw [signed_neg h3]
    simp [h0]

theorem natS_right {a : ByteArray} (h : rightB a = true) : natS (sval a) = a := by
  rw [natS_sval]
  unfold rightB at h
  apply ByteArray.ext
  apply Array.toList_inj.1
  cases e : a.data.toList with
  | nil => rfl
  | cons x l =>
    rw [e] at h
    have hx : x ≠ 0 := by simpa using h
    simp [strip0, hx]
theorem right_canon (n : Nat) : rightB (natS n) = true := by
  have h := natS_canon n
  unfold rightB
  cases e : (natS n).data.toList with
  | nil => rfl
  | cons x l =>
    have := h (by rw [e]; simp)
    simp only [e, List.head_cons] at this
    simpa using this
theorem size_pos_sval {b : ByteArray} (h : rightB b = true) : b.size = 0 ↔ sval b = 0 := by
  constructor
  · intro e
    have := sval_lt b
    rw [e] at this
    have h2 : sval b < 1 := this
    omega
  · intro e
    rw [← natS_right h, e]
    rfl

/-- A right api.Rat is the word of its number. -/
theorem ratV_of {g : Bool} {a b : ByteArray} (h : rRightB g a b = true) : ratV (ratOf g a b) = .agg #[.bool g, .string a, .string b] := by
  unfold ratOf
  rw [if_pos h]
  unfold rRightB at h
  simp only [Bool.and_eq_true, decide_eq_true_eq, Bool.not_eq_true', Bool.and_eq_false_iff, decide_eq_false_iff_not] at h
  obtain ⟨⟨⟨⟨h1, h2⟩, h3⟩, h4⟩, h5⟩ := h
  have hb : sval b ≠ 0 := fun e => h3 ((size_pos_sval h2).2 e)
  rw [ratV_mk g hb, h5, Nat.div_one, Nat.div_one, natS_right h1, natS_right h2]
  congr 3
  rcases h4 with h4 | h4
  · have : sval a ≠ 0 := fun e => h4 ((size_pos_sval h1).2 e)
    simp [this]
  · simp [h4]

/-- The words of a number are right, and it is their number. -/
theorem ratOf_words (x : Rat) : rRightB (decide (x.num < 0)) (natS x.num.natAbs) (natS x.den) = true ∧ ratOf (decide (x.num < 0)) (natS x.num.natAbs) (natS x.den) = x := by
  have hs : signed (decide (x.num < 0)) x.num.natAbs = x.num := by
    unfold signed
    by_cases h : x.num < 0
    · simp only [h, decide_true, if_true]; omega
    · simp only [h, decide_false, Bool.false_eq_true, if_false]; omega
  have hr : rRightB (decide (x.num < 0)) (natS x.num.natAbs) (natS x.den) = true := by
    unfold rRightB
    rw [right_canon, right_canon, sval_natS, sval_natS]
    have h1 : (natS x.den).size ≠ 0 := fun e => x.den_nz (natS_zero_size.1 e)
    have h2 : (decide ((natS x.num.natAbs).size = 0) && decide (x.num < 0)) = false := by
      by_cases h : x.num < 0
      · have : (natS x.num.natAbs).size ≠ 0 := fun e => by
          have := natS_zero_size.1 e
          omega
        simp [this]
      · simp [h]
    rw [h2]
    simp [h1]
    exact x.reduced
  refine ⟨hr, ?_⟩
  unfold ratOf
  rw [if_pos hr, sval_natS, sval_natS, hs, Rat.mkRat_self]

end Go.Proofs.YtikdkhmeaoafmaaGreatDoor
