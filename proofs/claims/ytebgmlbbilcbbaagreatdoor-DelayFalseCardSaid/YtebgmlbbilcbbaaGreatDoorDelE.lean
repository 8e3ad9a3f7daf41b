/- Delays: powers of 2, reduced numbers. -/
import Derived.Test.YtebgmlbbilcbbaaGreatDoorDelD
namespace Go.Proofs.YtebgmlbbilcbbaaGreatDoor
open Go.RowKit

theorem ofInt_i64 (a : Nat) (ha : a < 18446744073709551616) : (BitVec.ofInt 64 (a : Int)).toNat = a := by
  rw [BitVec.ofInt_natCast, BitVec.toNat_ofNat]; exact Nat.mod_eq_of_lt (by omega)
theorem i64_and_nat (a b : Nat) (ha : a < 9223372036854775808) (hb : b < 9223372036854775808) : bits .and .i64 (a : Int) (b : Int) = ((a &&& b : Nat) : Int) := by
  have hx : a &&& b < 2 ^ 63 := Nat.and_lt_two_pow _ (by omega)
  show IntKind.i64.wrap ((BitVec.ofInt 64 (a : Int) &&& BitVec.ofInt 64 (b : Int)).toNat : Int) = _
  rw [BitVec.toNat_and, ofInt_i64 a (by omega), ofInt_i64 b (by omega), IntKind.wrap_i64]
  omega
theorem i64_and63 (n : Int) : bits .and .i64 n 63 = n % 64 := by
  have h127 : (BitVec.ofInt 64 63).toNat = 2 ^ 6 - 1 := by decide
  have key : (BitVec.ofInt 64 n &&& BitVec.ofInt 64 63).toNat = (n % ((2 ^ 64 : Nat) : Int)).toNat % 2 ^ 6 := by
    rw [BitVec.toNat_and, BitVec.toNat_ofInt, h127, Nat.and_two_pow_sub_one_eq_mod]
  show IntKind.i64.wrap ((BitVec.ofInt 64 n &&& BitVec.ofInt 64 63).toNat : Nat) = n % 64
  rw [key, IntKind.wrap_i64]
  omega
/-- A number without bits of the one below is a power of 2. -/
theorem pow_and : ∀ (n k : Nat), n ≤ k → 0 < n → n &&& (n - 1) = 0 → ∃ j, n = 2 ^ j
  | n, 0, h, h0, _ => by omega
  | n, k + 1, h, h0, ha => by
    by_cases h1 : n = 1
    · exact ⟨0, h1⟩
    have hd : (n &&& (n - 1)) / 2 = (n / 2) &&& ((n - 1) / 2) := Nat.and_div_two
    rw [ha] at hd
    rcases Nat.mod_two_eq_zero_or_one n with he | he
    · rw [show (n - 1) / 2 = n / 2 - 1 by omega] at hd
      obtain ⟨j, hj⟩ := pow_and (n / 2) k (by omega) (by omega) hd.symm
      exact ⟨j + 1, by rw [Nat.pow_succ]; omega⟩
    · rw [show (n - 1) / 2 = n / 2 by omega, Nat.and_self] at hd
      omega
theorem and_pow (j : Nat) : 2 ^ j &&& (2 ^ j - 1) = 0 := by
  rw [Nat.and_two_pow_sub_one_eq_mod, Nat.mod_self]
/-- A number of steps that is a power of 2. -/
theorem pow_le20 {n : Nat} (h : n ≤ 20) : 2 ^ n ≤ 1048576 := Nat.pow_le_pow_right (n := 2) (by omega) h
theorem le20_pow {n : Nat} (h : 2 ^ n ≤ 1048576) : n ≤ 20 := by
  rcases Nat.lt_or_ge 20 n with h1 | h1
  · have := Nat.pow_le_pow_right (n := 2) (by omega) (show 21 ≤ n from h1)
    have e : (2 : Nat) ^ 21 = 2097152 := by decide
    omega
  · exact h1

theorem power_yes (n : Nat) (hn : n ≤ 20) : Ret 77 #[.int .i64 ((2 ^ n : Nat) : Int)] (.bool true) := by
  intro w
  have h1 := pow_le20 hn
  have h2 : 0 < 2 ^ n := Nat.two_pow_pos n
  have h3 : bits .and .i64 ((2 ^ n : Nat) : Int) (((2 ^ n : Nat) : Int) - 1) = 0 := by
    rw [show ((2 ^ n : Nat) : Int) - 1 = ((2 ^ n - 1 : Nat) : Int) by omega, i64_and_nat _ _ (by omega) (by omega), and_pow]; rfl
  generalize (2 ^ n : Nat) = t at *
  have g1 : (1 : Int) ≤ (t : Int) := by omega
  have g2 : (t : Int) ≤ 1048576 := by omega
  go_enter Tryz.func77, Tryz.ntmps77
  go_wp2_with fail
  go_ret
  exact ⟨rfl, Below.refl _ _⟩
theorem power_no (t : Int) (h : ∀ n : Nat, n ≤ 20 → t ≠ ((2 ^ n : Nat) : Int)) : Ret 77 #[.int .i64 t] (.bool false) := by
  intro w
  by_cases g1 : 1 ≤ t
  · by_cases g2 : t ≤ 1048576
    · obtain ⟨k, rfl⟩ := Int.eq_ofNat_of_zero_le (show 0 ≤ t by omega)
      have h3 : (bits .and .i64 (k : Int) ((k : Int) - 1) == 0) = false := by
        rw [beq_eq_false_iff_ne]
        intro e
        rw [show (k : Int) - 1 = ((k - 1 : Nat) : Int) by omega, i64_and_nat _ _ (by omega) (by omega)] at e
        obtain ⟨j, hj⟩ := pow_and k k (Nat.le_refl _) (by omega) (by omega)
        refine h j (le20_pow (by omega)) ?_
        rw [hj]
      clear h
      go_enter Tryz.func77, Tryz.ntmps77
      go_wp2_with fail
      go_ret
      exact ⟨rfl, Below.refl _ _⟩
    · clear h
      have g3 : decide (t ≤ 1048576) = false := by simp; omega
      go_enter Tryz.func77, Tryz.ntmps77
      go_wp2_with fail
      go_ret
      exact ⟨rfl, Below.refl _ _⟩
  · clear h
    have g3 : decide (1 ≤ t) = false := by simp; omega
    go_enter Tryz.func77, Tryz.ntmps77
    go_wp2_with fail
    go_ret
    exact ⟨rfl, Below.refl _ _⟩

theorem Log_yes (n : Nat) (hn : n ≤ 20) : Ret 87 #[.int .i64 ((2 ^ n : Nat) : Int)] (.tuple #[.int .i64 (n : Int), .bool true]) := by
  intro w
  obtain ⟨t, ht⟩ : ∃ t, t = 2 ^ n := ⟨_, rfl⟩
  rw [← ht]
  have HT := Lib.hid ht
  clear ht
  go_enter Tryz.func87, Tryz.ntmps87
  go_wp2_with fail
  go_loopw [4] (fun s4 wr => ∃ i : Nat, i ≤ n ∧ s4 = .int .i64 (i : Int) ∧ w = wr) (fun s4 _ => n - (intOf s4).toNat)
  case atStart => exact ⟨0, Nat.zero_le _, rfl, rfl⟩
  case round =>
    obtain ⟨i, hi, rfl, rfl⟩ := hrel
    have hp := pow_le20 (show i ≤ 20 by omega)
    obtain ⟨q, hq⟩ : ∃ q : Nat, q = 2 ^ i := ⟨_, rfl⟩
    have hw : ((2 : Int) ^ i) = (q : Int) := by rw [hq]; simp
    rw [← hq] at hp
    have h20 : (i : Int) ≤ 20 := by omega
    by_cases hlt : i < n
    · have hne2 : ((t : Int) == (q : Int)) = false := by
        rw [beq_eq_false_iff_ne, HT.out, hq]
        intro e
        have := (Nat.pow_right_inj (a := 2) (by omega)).1 (show 2 ^ n = 2 ^ i by omega)
        omega
      clear hq
      go_wp2_with fail
      go_roundw
      case rel => exact ⟨i + 1, hlt, by go_num, trivial⟩
      case measure => simp [intOf]; omega
    · obtain rfl : i = n := by omega
      have heq : ((t : Int) == (q : Int)) = true := by rw [beq_iff_eq, HT.out, hq]
      clear hq
      go_wp2_with fail
      go_ret2
      exact ⟨rfl, Below.refl _ _⟩
theorem Log_no (t : Int) (h : ∀ n : Nat, n ≤ 20 → t ≠ ((2 ^ n : Nat) : Int)) : Ret 87 #[.int .i64 t] (.tuple #[.int .i64 0, .bool false]) := by
  intro w
  have H := Lib.hid h
  clear h
  go_enter Tryz.func87, Tryz.ntmps87
  go_wp2_with fail
  go_loopw [4] (fun s4 wr => ∃ i : Nat, i ≤ 21 ∧ s4 = .int .i64 (i : Int) ∧ w = wr) (fun s4 _ => 21 - (intOf s4).toNat)
  case atStart => exact ⟨0, Nat.zero_le _, rfl, rfl⟩
  case round =>
    obtain ⟨i, hi, rfl, rfl⟩ := hrel
    by_cases hlt : i < 21
    · have hp := pow_le20 (show i ≤ 20 by omega)
      obtain ⟨q, hq⟩ : ∃ q : Nat, q = 2 ^ i := ⟨_, rfl⟩
      have hw : ((2 : Int) ^ i) = (q : Int) := by rw [hq]; simp
      rw [← hq] at hp
      have h20 : (i : Int) ≤ 20 := by omega
      have hne2 : (t == (q : Int)) = false := by
        rw [beq_eq_false_iff_ne, hq]
        exact H.out i (by omega)
      clear hq
      go_wp2_with fail
      go_roundw
      case rel => exact ⟨i + 1, hlt, by go_num, trivial⟩
      case measure => simp [intOf]; omega
    · obtain rfl : i = 21 := by omega
      go_wp2_with fail
      go_ret2
      exact ⟨rfl, Below.refl _ _⟩

/-- Whether a string is a right number that is less than the modulus. -/
def redN (s : ByteArray) : Bool := rightB s && decide (sval s < modN)
theorem cmp_neg (a b : Nat) : decide (cmpI a b < 0) = decide (a < b) := by
  unfold cmpI
  split
  · rename_i h; simp [h]
  · rename_i h; split <;> simp <;> omega
theorem right_self {s : ByteArray} (h : rightB s = true) : natS (sval s) = s := by
  rw [natS_sval]
  refine bytes_eq ?_
  show (strip0 s.data.toList).toArray.toList = _
  unfold rightB at h
  cases e : s.data.toList with
  | nil => rfl
  | cons x l =>
    rw [e] at h
    simp at h
    simp [strip0, h]
theorem redN_self {s : ByteArray} (h : redN s = true) : natS (sval s) = s ∧ sval s < modN := by
  unfold redN at h
  simp only [Bool.and_eq_true, decide_eq_true_eq] at h
  exact ⟨right_self h.1, h.2⟩
theorem redN_size {s : ByteArray} (h : redN s = true) : s.size ≤ 16 := by
  obtain ⟨h1, h2⟩ := redN_self h
  rw [← h1]
  exact natS_lt_mod h2
theorem redN_natS {n : Nat} (h : n < modN) : redN (natS n) = true := by
  unfold redN
  rw [right_natS, sval_natS]
  simp [h]
set_option maxHeartbeats 400000 in
theorem reduced_q (x : ByteArray) (hx : x.size ≤ 1000) : Ret 83 #[.string x] (.bool (redN x)) := by
  intro w
  have hc := cmp_neg (sval x) modN
  have m1 := Lib.hid (ret_right hx (b := rightB x) rfl)
  have m2 := Lib.hid (ret_cmp (a := x) (b := modS) hx (by decide) (r := cmpI (sval x) modN) (by rw [sval_modS]))
  unfold redN
  rw [← hc]
  clear hc
  generalize cmpI (sval x) modN = c at m2 ⊢
  cases hb : rightB x
  · rw [hb] at m1
    clear hb
    go_enter Tryz.func83, Tryz.ntmps83
    go_wp2_with fail
    refine (m1.out _).mono ?_
    rintro e w1 ⟨rfl, hB⟩
    go_wp2_with fail
    go_ret
    exact ⟨rfl, hB⟩
  · rw [hb] at m1
    clear hb
    go_enter Tryz.func83, Tryz.ntmps83
    go_wp2_with fail
    refine (m1.out _).mono ?_
    rintro e w1 ⟨rfl, hB⟩
    go_wp2_with fail
    refine (m2.out _).mono ?_
    rintro e w2 ⟨rfl, hb⟩
    go_wp2_with fail
    go_ret
    exact ⟨by simp, below_then hB hb⟩
set_option maxHeartbeats 400000 in
theorem rReduced_q (x : ByteArray) (hx : x.size ≤ 1000) : Ret 91 #[.string x] (.bool (redN x)) := by
  intro w
  have hc := cmp_neg (sval x) modN
  have m1 : Hid (Ret 144 #[.string x] (.bool (rightB x))) := Lib.hid (Ret.quiet fun W => rRight x W (by omega))
  have m2 : Hid (Ret 101 #[.string x, .string modS] (.int .i64 (cmpI (sval x) modN))) := Lib.hid (Ret.quiet fun W => by
    have := rCmp x modS W (by omega) (by decide)
    rw [sval_modS] at this
    exact this)
  unfold redN
  rw [← hc]
  clear hc
  generalize cmpI (sval x) modN = c at m2 ⊢
  cases hb : rightB x
  · rw [hb] at m1
    clear hb
    go_enter Tryz.func91, Tryz.ntmps91
    go_wp2_with fail
    refine (m1.out _).mono ?_
    rintro e w1 ⟨rfl, hB⟩
    go_wp2_with fail
    go_ret
    exact ⟨rfl, hB⟩
  · rw [hb] at m1
    clear hb
    go_enter Tryz.func91, Tryz.ntmps91
    go_wp2_with fail
    refine (m1.out _).mono ?_
    rintro e w1 ⟨rfl, hB⟩
    go_wp2_with fail
    refine (m2.out _).mono ?_
    rintro e w2 ⟨rfl, hb⟩
    go_wp2_with fail
    go_ret
    exact ⟨by simp, below_then hB hb⟩

end Go.Proofs.YtebgmlbbilcbbaaGreatDoor
