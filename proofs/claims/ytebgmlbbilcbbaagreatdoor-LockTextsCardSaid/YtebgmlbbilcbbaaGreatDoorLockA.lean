/- Locks: ints as texts, hashes of secrets. -/
import Derived.Test.YtebgmlbbilcbbaaGreatDoorDelTwo
import Derived.Test.YtebgmlbbilcbbaaGreatDoorPlainRead
namespace Go.Proofs.YtebgmlbbilcbbaaGreatDoor
open Go.RowKit

theorem natS_9 {n : Nat} (h : n ≤ 9223372036854775808) : (natS n).size ≤ 9 := natS_size (Nat.lt_of_le_of_lt h (by decide +kernel))
/-- An int as a string. -/
def decIS (z : Int) : ByteArray := strB (decI z)
theorem decIS_list (z : Int) : (decIS z).data.toList = decI z := strB_list _
theorem itoa_decI (z : Int) : Lib.itoa z = decI z := by
  unfold Lib.itoa decI
  split
  · rfl
  · rw [show z.toNat = z.natAbs by omega]
theorem decIS_nat (n : Nat) : decIS (n : Int) = decS n := by unfold decIS decS strB; rw [decI_nat]
theorem decI_len {z : Int} (h : I64 z) : (decI z).length ≤ 20 := by
  obtain ⟨h1, h2⟩ := h
  have hl := (dec_len 18 z.natAbs (by omega)).1
  unfold decI
  split
  · rw [List.length_cons]; omega
  · omega
theorem decIS_size {z : Int} (h : I64 z) : (decIS z).size ≤ 20 := by unfold decIS; rw [strB_size]; exact decI_len h
theorem itoa_int (z : Int) (hz : I64 z) : RetT 85 #[.int .i64 z] (.string (decIS z)) := fun W hT => by
  obtain ⟨h1, h2⟩ := hz
  refine (Tryz.strconv_Itoa z (by omega) (by omega) W hT.p).mono ?_
  rintro e w' ⟨rfl, k, os, rfl⟩
  rw [itoa_decI]
  exact ⟨rfl, below_grow W k os⟩

set_option maxHeartbeats 1000000 in
theorem Decimal_q (z : Int) (hz : I64 z) : Ret 110 #[.int .i64 z] (.string (decIS z)) := by
  intro w
  obtain ⟨h1, h2⟩ := hz
  by_cases h0 : 0 ≤ z
  · obtain ⟨n, rfl⟩ := Int.eq_ofNat_of_zero_le h0
    have m1 := Lib.hid (fun W => rOf (n : Int) W h2)
    have m2 := Lib.hid (fun W => rText (natS n) W (Nat.le_trans (natS_9 (by omega)) (by omega)))
    rw [Int.toNat_natCast] at m1
    rw [sval_natS] at m2
    rw [decIS_nat]
    go_enter Tryz.func110, Tryz.ntmps110
    go_wp2_with fail
    refine (m1.out _).mono ?_
    rintro e w1 ⟨rfl, hB⟩
    go_wp2_with fail
    refine (m2.out _).mono ?_
    rintro e w2 ⟨rfl, hb⟩
    go_wp2_with fail
    go_ret
    exact ⟨rfl, below_then hB hb⟩
  · obtain ⟨m, hm⟩ : ∃ m : Nat, -(z + 1) = (m : Int) := ⟨(-(z + 1)).toNat, by omega⟩
    have hmz : decI z = 45 :: Lib.decDigits (m + 1) := by rw [decI_of_neg (by omega), show z.natAbs = m + 1 by omega]
    have m1 : Hid (∀ W, Calls Tryz.prog 73 #[.int .i64 (m : Int)] W fun e w' => e = .returned (.string (natS m)) ∧ Below W.heap.size W w') := Lib.hid (fun W => by
      have := rOf (m : Int) W (by omega)
      rwa [Int.toNat_natCast] at this)
    have m2 : Hid (∀ W, Calls Tryz.prog 73 #[.int .i64 1] W fun e w' => e = .returned (.string (natS 1)) ∧ Below W.heap.size W w') := Lib.hid (fun W => rOf 1 W (by omega))
    have m3 : Hid (∀ W, Calls Tryz.prog 22 #[.string (natS m), .string (natS 1)] W fun e w' => e = .returned (.string (natS (m + 1))) ∧ Below W.heap.size W w') := Lib.hid (fun W => by
      have := rAdd (natS m) (natS 1) W (Nat.le_trans (natS_9 (by omega)) (by omega)) (Nat.le_trans (natS_9 (by omega)) (by omega))
      rwa [sval_natS, sval_natS] at this)
    have m4 : Hid (∀ W, Calls Tryz.prog 41 #[.string (natS (m + 1))] W fun e w' => e = .returned (.string (decS (m + 1))) ∧ Below W.heap.size W w') := Lib.hid (fun W => by
      have := rText (natS (m + 1)) W (Nat.le_trans (natS_9 (by omega)) (by omega))
      rwa [sval_natS] at this)
    have hs : (⟨#[45]⟩ : ByteArray) ++ decS (m + 1) = decIS z := bytes_eq (by
      rw [ByteArray.data_append, Array.toList_append, decS_list, decIS_list, hmz]; rfl)
    have hz1 : (decS (m + 1)).size ≤ 20 := by
      show (Lib.decDigits (m + 1)).toArray.size ≤ _
      rw [List.size_toArray]
      exact (dec_len 19 (m + 1) (by omega)).1
    generalize decIS z = r at *
    generalize decS (m + 1) = d at *
    generalize natS (m + 1) = x at *
    generalize natS 1 = o at *
    generalize natS m = y at *
    clear hmz
    go_enter Tryz.func110, Tryz.ntmps110
    go_wp2_with fail
    refine (m1.out _).mono ?_
    rintro e w1 ⟨rfl, hB⟩
    go_wp2_with fail
    refine (m2.out _).mono ?_
    rintro e w2 ⟨rfl, hb⟩
    replace hB := below_then hB hb
    go_wp2_with fail
    refine (m3.out _).mono ?_
    rintro e w3 ⟨rfl, hb⟩
    replace hB := below_then hB hb
    go_wp2_with fail
    refine (m4.out _).mono ?_
    rintro e w4 ⟨rfl, hb⟩
    replace hB := below_then hB hb
    go_wp2_with fail
    go_ret
    exact ⟨rfl, hB⟩

/-- The text of a secret, as it is put together. -/
def secretB (d1 d2 s : ByteArray) : ByteArray := ((((⟨#[115, 101, 99, 114, 101, 116, 47]⟩ ++ d1) ++ ⟨#[47]⟩) ++ d2) ++ ⟨#[47]⟩) ++ s
theorem secretB_list (who round : Int) (s : ByteArray) : (secretB (decIS who) (decIS round) s).data.toList = secretL who round s.data.toList := by
  unfold secretB secretL
  simp only [ByteArray.data_append, Array.toList_append, decIS_list, List.append_assoc]
  rfl
theorem secretB_size (d1 d2 s : ByteArray) : (secretB d1 d2 s).size = 7 + d1.size + 1 + d2.size + 1 + s.size := by
  unfold secretB
  simp only [ByteArray.size_append]
  rfl
theorem u8a_len {l : List UInt8} {n : Nat} (h : l.length = n) : (u8a l).size = n := by simp [u8a, u8l, h]

set_option maxRecDepth 100000 in
set_option maxHeartbeats 2000000 in
theorem secretHash_q (who round : Int) (s : ByteArray) (h1 : I64 who) (h2 : I64 round) (hs : s.size ≤ 100000) :
    RetT 104 #[.int .i64 who, .int .i64 round, .string s] (.agg (u8a (secretH who round s.data.toList))) := by
  intro w hT
  have m1 := Lib.hid (itoa_int who h1)
  have m2 := Lib.hid (itoa_int round h2)
  have s1 := decIS_size h1
  have s2 := decIS_size h2
  obtain ⟨h, hh⟩ : ∃ h, h = secretH who round s.data.toList := ⟨_, rfl⟩
  have hl : h.length = 32 := by rw [hh]; exact sha_len _
  have m3 : Hid (∀ W, Tabs W → Calls Tryz.prog 92 #[.string (secretB (decIS who) (decIS round) s)] W fun e w' => e = .returned (.agg (u8a h)) ∧ Below W.heap.size W w') := Lib.hid (fun W hW => by
    have := Sum_any (secretB (decIS who) (decIS round) s) W (by rw [secretB_size]; omega) hW.k hW.f
    rw [secretB_list] at this
    rw [hh]; exact this)
  rw [← hh]
  unfold secretB at m3
  have HT := Lib.hid hT
  clear hT hh
  generalize decIS who = d1 at *
  generalize decIS round = d2 at *
  have z1 : ¬ 9223372036854775807 < 7 + d1.size := by omega
  have z2 : ¬ 9223372036854775807 < 7 + d1.size + 1 := by omega
  have z3 : ¬ 9223372036854775807 < 7 + d1.size + 1 + d2.size := by omega
  have z4 : ¬ 9223372036854775807 < 7 + d1.size + 1 + d2.size + 1 := by omega
  have z5 : ¬ 9223372036854775807 < 7 + d1.size + 1 + d2.size + 1 + s.size := by omega
  have hsz : (u8a h).size = 32 := u8a_len hl
  go_enter Tryz.func104, Tryz.ntmps104
  go_upto_region 1 with fail
  refine nameOne (u8a (List.replicate 32 0)) rfl ?_
  intro W0 hk hB
  go_wp2_with fail
  refine (m1.out _ (HT.out.below hB)).mono ?_
  rintro e w1 ⟨rfl, hb⟩
  replace hk := hk.below hb hk.lt
  replace hB := below_then hB hb
  go_wp2_with fail
  refine (m2.out _ (HT.out.below hB)).mono ?_
  rintro e w2 ⟨rfl, hb⟩
  replace hk := hk.below hb hk.lt
  replace hB := below_then hB hb
  go_wp2_with fail
  refine (m3.out _ (HT.out.below hB)).mono ?_
  rintro e w3 ⟨rfl, hb⟩
  replace hk := hk.below hb hk.lt
  replace hB := below_then hB hb
  go_wp2_with (refine wpList_store_rowTo rfl 71 _ _ rfl rfl _ (u8a h) rfl rfl _ _ hk (by rw [hsz]; kernel_rfl) (by rw [hsz, u8a_len (List.length_replicate ..)]) (u8a_one _) ?_)
  refine bodyPost_ret (results_cell_row (p := 6) (ty := 71) rfl _ _ w.heap.size _ (u8a h) (0, 0) _ rfl (hk.rowA _) Tryz.underlying71 rfl (by rw [hsz]; kernel_rfl)) rfl ?_
  exact ⟨rfl, below_setRow hB (Nat.le_refl _) _⟩

set_option maxRecDepth 100000 in
set_option maxHeartbeats 2000000 in
theorem rHash_q (who round : Int) (s : ByteArray) (h1 : I64 who) (h2 : I64 round) (hs : s.size ≤ 100000) :
    Ret 57 #[.int .i64 who, .int .i64 round, .string s] (.agg (u8a (secretH who round s.data.toList))) := by
  intro w
  have m1 := Lib.hid (Decimal_q who h1)
  have m2 := Lib.hid (Decimal_q round h2)
  have s1 := decIS_size h1
  have s2 := decIS_size h2
  obtain ⟨h, hh⟩ : ∃ h, h = secretH who round s.data.toList := ⟨_, rfl⟩
  have hl : h.length = 32 := by rw [hh]; exact sha_len _
  have m3 : Hid (∀ W, Calls Tryz.prog 64 #[.string (secretB (decIS who) (decIS round) s)] W fun e w' => e = .returned (.agg (u8a h)) ∧ Below W.heap.size W w') := Lib.hid (fun W => by
    have := rSum_any (secretB (decIS who) (decIS round) s) W (by rw [secretB_size]; omega)
    rw [secretB_list] at this
    rw [hh]; exact this)
  rw [← hh]
  unfold secretB at m3
  clear hh
  generalize decIS who = d1 at *
  generalize decIS round = d2 at *
  have z1 : ¬ 9223372036854775807 < 7 + d1.size := by omega
  have z2 : ¬ 9223372036854775807 < 7 + d1.size + 1 := by omega
  have z3 : ¬ 9223372036854775807 < 7 + d1.size + 1 + d2.size := by omega
  have z4 : ¬ 9223372036854775807 < 7 + d1.size + 1 + d2.size + 1 := by omega
  have z5 : ¬ 9223372036854775807 < 7 + d1.size + 1 + d2.size + 1 + s.size := by omega
  have hsz : (u8a h).size = 32 := u8a_len hl
  go_enter Tryz.func57, Tryz.ntmps57
  go_upto_region 1 with fail
  refine nameOne (u8a (List.replicate 32 0)) rfl ?_
  intro W0 hk hB
  go_wp2_with fail
  refine (m1.out _).mono ?_
  rintro e w1 ⟨rfl, hb⟩
  replace hk := hk.below hb hk.lt
  replace hB := below_then hB hb
  go_wp2_with fail
  refine (m2.out _).mono ?_
  rintro e w2 ⟨rfl, hb⟩
  replace hk := hk.below hb hk.lt
  replace hB := below_then hB hb
  go_wp2_with fail
  refine (m3.out _).mono ?_
  rintro e w3 ⟨rfl, hb⟩
  replace hk := hk.below hb hk.lt
  replace hB := below_then hB hb
  go_wp2_with (refine wpList_store_rowTo rfl 71 _ _ rfl rfl _ (u8a h) rfl rfl _ _ hk (by rw [hsz]; kernel_rfl) (by rw [hsz, u8a_len (List.length_replicate ..)]) (u8a_one _) ?_)
  refine bodyPost_ret (results_cell_row (p := 6) (ty := 71) rfl _ _ w.heap.size _ (u8a h) (0, 0) _ rfl (hk.rowA _) Tryz.underlying71 rfl (by rw [hsz]; kernel_rfl)) rfl ?_
  exact ⟨rfl, below_setRow hB (Nat.le_refl _) _⟩

end Go.Proofs.YtebgmlbbilcbbaaGreatDoor
