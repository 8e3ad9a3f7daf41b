/- Locks: ints as texts, hashes of secrets. -/
import Derived.Test.YtkpinmejfdnhbaaGreatDoorDelTwo
import Derived.Test.YtkpinmejfdnhbaaGreatDoorPlainRead
set_option maxHeartbeats 1000000
namespace Go.Proofs.YtkpinmejfdnhbaaGreatDoor
open Go.RowKit
theorem natS_9 {n : Nat} (h : n ≤ 9223372036854775808) : (natS n).size ≤ 9 := natS_size (Nat.lt_of_le_of_lt h (by decide +kernel))
def decIS (z : Int) : ByteArray := strB (decI z)
theorem decIS_list (z : Int) : (decIS z).data.toList = decI z := strB_list _
theorem itoa_decI (z : Int) : Lib.itoa z = decI z := by
 unfold Lib.itoa decI
 split
 ·rfl
 ·rw [show z.toNat = z.natAbs by omega]
theorem decIS_nat (n : Nat) : decIS (n : Int) = decS n := by unfold decIS decS strB; rw [decI_nat]
theorem decI_len {z : Int} (h : I64 z) : (decI z).length ≤ 20 := by
 obtain ⟨h1, h2⟩ := h;have hl := (dec_len 18 z.natAbs (by omega)).1;unfold decI
 split
 ·rw [List.length_cons]; omega
 ·omega
theorem decIS_size {z : Int} (h : I64 z) : (decIS z).size ≤ 20 := by unfold decIS; rw [strB_size]; exact decI_len h
theorem itoa_int (z : Int) (hz : I64 z) : RetT 57 #[.int .i64 z] (.string (decIS z)) := fun W hT => by
 obtain ⟨h1, h2⟩ := hz;refine (Tryz.strconv_Itoa z (by omega) (by omega) W hT.p).mono ?_;rintro e w' ⟨rfl, k, os, rfl⟩;rw [itoa_decI];exact ⟨rfl, below_grow W k os⟩
theorem Decimal_q (z : Int) (hz : I64 z) : Ret 48 #[.int .i64 z] (.string (decIS z)) := by
 intro w;obtain ⟨h1, h2⟩ := hz
 by_cases h0 : 0 ≤ z
 ·obtain ⟨n, rfl⟩ := Int.eq_ofNat_of_zero_le h0;have m1 := Lib.hid (fun W => rOf (n : Int) W h2);have m2 := Lib.hid (fun W => rText (natS n) W (Nat.le_trans (natS_9 (by omega)) (by omega)));rw [Int.toNat_natCast] at m1;rw [sval_natS] at m2;rw [decIS_nat];go_enter Tryz.func48, Tryz.ntmps48;go_wp2_with fail;refine (m1.out _).mono ?_;rintro e w1 ⟨rfl, hB⟩;go_wp2_with fail;refine (m2.out _).mono ?_;rintro e w2 ⟨rfl, hb⟩;go_wp2_with fail;go_ret;exact ⟨rfl, below_then hB hb⟩
 ·obtain ⟨m, hm⟩ : ∃ m : Nat, -(z + 1) = (m : Int) := ⟨(-(z + 1)).toNat, by omega⟩;have hmz : decI z = 45 :: Lib.decDigits (m + 1) := by rw [decI_of_neg (by omega), show z.natAbs = m + 1 by omega]
  have m1 : Hid (∀ W, Calls Tryz.prog 105 #[.int .i64 (m : Int)] W fun e w' => e = .returned (.string (natS m)) ∧ Below W.heap.size W w') := Lib.hid (fun W => by
   have := rOf (m : Int) W (by omega)
   rwa [Int.toNat_natCast] at this)
  have m2 : Hid (∀ W, Calls Tryz.prog 105 #[.int .i64 1] W fun e w' => e = .returned (.string (natS 1)) ∧ Below W.heap.size W w') := Lib.hid (fun W => rOf 1 W (by omega))
  have m3 : Hid (∀ W, Calls Tryz.prog 106 #[.string (natS m), .string (natS 1)] W fun e w' => e = .returned (.string (natS (m + 1))) ∧ Below W.heap.size W w') := Lib.hid (fun W => by
   have := rAdd (natS m) (natS 1) W (Nat.le_trans (natS_9 (by omega)) (by omega)) (Nat.le_trans (natS_9 (by omega)) (by omega))
   rwa [sval_natS, sval_natS] at this)
  have m4 : Hid (∀ W, Calls Tryz.prog 104 #[.string (natS (m + 1))] W fun e w' => e = .returned (.string (decS (m + 1))) ∧ Below W.heap.size W w') := Lib.hid (fun W => by
   have := rText (natS (m + 1)) W (Nat.le_trans (natS_9 (by omega)) (by omega))
   rwa [sval_natS] at this)
  have hs : (⟨#[45]⟩ : ByteArray) ++ decS (m + 1) = decIS z := bytes_eq (by
   rw [ByteArray.data_append, Array.toList_append, decS_list, decIS_list, hmz]; rfl)
  have hz1 : (decS (m + 1)).size ≤ 20 := by
   show (Lib.decDigits (m + 1)).toArray.size ≤ _;rw [List.size_toArray];exact (dec_len 19 (m + 1) (by omega)).1
  generalize decIS z = r at *;generalize decS (m + 1) = d at *;generalize natS (m + 1) = x at *;generalize natS 1 = o at *;generalize natS m = y at *;clear hmz;go_enter Tryz.func48, Tryz.ntmps48;go_wp2_with fail;refine (m1.out _).mono ?_;rintro e w1 ⟨rfl, hB⟩;go_wp2_with fail;refine (m2.out _).mono ?_;rintro e w2 ⟨rfl, hb⟩;replace hB := below_then hB hb;go_wp2_with fail;refine (m3.out _).mono ?_;rintro e w3 ⟨rfl, hb⟩;replace hB := below_then hB hb;go_wp2_with fail;refine (m4.out _).mono ?_;rintro e w4 ⟨rfl, hb⟩;replace hB := below_then hB hb;go_wp2_with fail;go_ret;exact ⟨rfl, hB⟩
theorem u8a_len {l : List UInt8} {n : Nat} (h : l.length = n) : (u8a l).size = n := by simp [u8a, u8l, h]
end Go.Proofs.YtkpinmejfdnhbaaGreatDoor
