/- The exported functions of nat: Of, Int, Right, Cmp, Add, Sub, Mul, Quo, Gcd, Bits. -/
import Derived.Test.YtikdkhmeaoafmaaGreatDoorNatJ
import Derived.Test.YtikdkhmeaoafmaaGreatDoorNatTwo
import Derived.Test.YtikdkhmeaoafmaaGreatDoorNatK
namespace Go.Proofs.YtikdkhmeaoafmaaGreatDoor
open Go.RowKit

theorem P8_le_P32 (k : Nat) : P8 k ≤ P32 k := by rw [P32_P8]; exact Nat.pow_le_pow_right (by omega) (by omega)

theorem Dig.few {w : World} {A : Option Addr} {m c k : Nat} {zs : List Nat} (h : Dig w A m c zs) (ht : Trim zs) (hv : val zs < P8 k) : m ≤ k := by
  rw [← h.len]
  exact ht.len_le (Nat.lt_of_lt_of_le hv (P8_le_P32 k))

theorem few {w : World} {A : Option Addr} {m c : Nat} {zs : List Nat} {s : ByteArray} (h : Dig w A m c zs) (ht : Trim zs) (hv : val zs = sval s) : m ≤ s.size := h.few ht (by rw [hv]; exact sval_lt s)

set_option maxHeartbeats 400000 in
theorem Of_neg (n : Int) (w : World) (h : n < 0) :
    Calls Tryz.prog 61 #[.int .i64 n] w fun e w' => e = .returned (.string (natS n.toNat)) ∧ Below w.heap.size w w' := by
  go_enter Tryz.func61, Tryz.ntmps61
  go_wp2_with fail
  go_ret
  exact ⟨by rw [show n.toNat = 0 by omega]; rfl, Below.refl _ _⟩

set_option maxHeartbeats 400000 in
theorem Of_nat (n : Nat) (w : World) (h : n ≤ 9223372036854775807) :
    Calls Tryz.prog 61 #[.int .i64 (n : Int)] w fun e w' => e = .returned (.string (natS n)) ∧ Below w.heap.size w w' := by
  go_enter Tryz.func61, Tryz.ntmps61
  go_wp2_with fail
  refine (split_any n _ (by omega)).mono ?_
  rintro e w1 ⟨⟨A1, m1, c1, z1, rfl, hd1, ht1, hv1⟩, hb1⟩
  have hm : m1 ≤ 2 := by rw [← hd1.len]; exact ht1.len_le (n := 2) (by rw [hv1]; have e : P32 2 = 18446744073709551616 := rfl; omega)
  have HV1 := Lib.hid hv1
  clear hv1
  go_wp2_with fail
  refine (number_any _ _ _ _ _ hd1 (by omega)).mono ?_
  rintro e w2 ⟨rfl, hb2⟩
  rw [HV1.out]
  go_wp2_with fail
  go_ret
  exact ⟨rfl, below_then hb1 hb2⟩

theorem Of_any (n : Int) (w : World) (h : n ≤ 9223372036854775807) :
    Calls Tryz.prog 61 #[.int .i64 n] w fun e w' => e = .returned (.string (natS n.toNat)) ∧ Below w.heap.size w w' := by
  rcases Int.lt_or_le n 0 with h0 | h0
  · exact Of_neg n w h0
  · obtain ⟨k, rfl⟩ := Int.eq_ofNat_of_zero_le h0
    rw [Int.toNat_natCast]
    exact Of_nat k w (by omega)

set_option maxHeartbeats 400000 in
theorem Right_any (s : ByteArray) (w : World) (hs : s.size ≤ 100000) :
    Calls Tryz.prog 56 #[.string s] w fun e w' => e = .returned (.bool (rightB s)) ∧ w = w' := by
  by_cases h0 : s.size = 0
  · have hl : s = ⟨#[]⟩ := by
      cases s with
      | mk d => simp [ByteArray.size] at h0; subst h0; rfl
    subst hl
    go_enter Tryz.func56, Tryz.ntmps56
    go_wp2_with fail
    go_ret
    exact ⟨rfl, rfl⟩
  · have hl0 : 0 < s.size := by omega
    have hne : ¬ s.toList = [] := by rw [ByteArray.toList_eq]; intro e; have := congrArg List.length e; rw [Array.length_toList] at this; exact h0 this
    have hemp : s.toList.isEmpty = false := by simpa using hne
    go_enter Tryz.func56, Tryz.ntmps56
    go_wp2_with fail
    go_ret
    refine ⟨congrArg (fun b => Ending.returned (Value.bool b)) ?_, rfl⟩
    have e : s.data.toList.head? = some s[0] := by
      rw [List.head?_eq_getElem?, List.getElem?_eq_getElem (by rw [Array.length_toList]; exact hl0)]
      rfl
    unfold rightB
    rw [e]
    rw [Bool.eq_iff_iff]
    simp [← UInt8.toNat_inj]

set_option maxHeartbeats 400000 in
theorem Cmp_any (a b : ByteArray) (w : World) (ha : a.size ≤ 100000) (hb : b.size ≤ 100000) :
    Calls Tryz.prog 76 #[.string a, .string b] w fun e w' => e = .returned (.int .i64 (cmpI (sval a) (sval b))) ∧ Below w.heap.size w w' := by
  go_enter Tryz.func76, Tryz.ntmps76
  go_wp2_with fail
  refine (digits_any a _ (by omega)).mono ?_
  rintro e w1 ⟨⟨A1, m1, c1, z1, rfl, hd1, ht1, hv1⟩, hb1⟩
  have hf1 := few hd1 ht1 hv1
  have HV1 := Lib.hid hv1
  clear hv1
  go_wp2_with fail
  refine (digits_any b _ (by omega)).mono ?_
  rintro e w2 ⟨⟨A2, m2, c2, z2, rfl, hd2, ht2, hv2⟩, hb2⟩
  have hf2 := few hd2 ht2 hv2
  have HV2 := Lib.hid hv2
  clear hv2
  go_wp2_with fail
  refine (compare_any _ _ _ _ _ _ _ _ _ (hd1.below hb2) hd2 (by omega) (by omega) ht1 ht2).mono ?_
  rintro e w3 ⟨rfl, hb3⟩
  rw [HV1.out, HV2.out]
  go_wp2_with fail
  go_ret
  exact ⟨rfl, below_then (below_then hb1 hb2) hb3⟩

set_option maxHeartbeats 400000 in
theorem Add_any (a b : ByteArray) (w : World) (ha : a.size ≤ 100000) (hb : b.size ≤ 100000) :
    Calls Tryz.prog 60 #[.string a, .string b] w fun e w' => e = .returned (.string (natS (sval a + sval b))) ∧ Below w.heap.size w w' := by
  go_enter Tryz.func60, Tryz.ntmps60
  go_wp2_with fail
  refine (digits_any a _ (by omega)).mono ?_
  rintro e w1 ⟨⟨A1, m1, c1, z1, rfl, hd1, ht1, hv1⟩, hb1⟩
  have hf1 := few hd1 ht1 hv1
  have HV1 := Lib.hid hv1
  clear hv1
  go_wp2_with fail
  refine (digits_any b _ (by omega)).mono ?_
  rintro e w2 ⟨⟨A2, m2, c2, z2, rfl, hd2, ht2, hv2⟩, hb2⟩
  have hf2 := few hd2 ht2 hv2
  have HV2 := Lib.hid hv2
  clear hv2
  go_wp2_with fail
  refine (add_any _ _ _ _ _ _ _ _ _ (hd1.below hb2) hd2 (by omega) (by omega)).mono ?_
  rintro e w3 ⟨⟨A3, m3, c3, z3, rfl, hd3, ht3, hv3⟩, hb3⟩
  rw [HV1.out, HV2.out] at hv3
  have hf3 : m3 ≤ a.size + b.size + 1 := hd3.few ht3 (by
    rw [hv3, P8_succ]
    have h1 := sval_lt a
    have h2 := sval_lt b
    have h3 : P8 a.size ≤ P8 (a.size + b.size) := Nat.pow_le_pow_right (by omega) (by omega)
    have h4 : P8 b.size ≤ P8 (a.size + b.size) := Nat.pow_le_pow_right (by omega) (by omega)
    omega)
  have HV3 := Lib.hid hv3
  clear hv3
  go_wp2_with fail
  refine (number_any _ _ _ _ _ hd3 (by omega)).mono ?_
  rintro e w4 ⟨rfl, hb4⟩
  rw [HV3.out]
  go_wp2_with fail
  go_ret
  exact ⟨rfl, below_then (below_then (below_then hb1 hb2) hb3) hb4⟩

set_option maxHeartbeats 400000 in
theorem Mul_any (a b : ByteArray) (w : World) (ha : a.size ≤ 100000) (hb : b.size ≤ 100000) :
    Calls Tryz.prog 68 #[.string a, .string b] w fun e w' => e = .returned (.string (natS (sval a * sval b))) ∧ Below w.heap.size w w' := by
  go_enter Tryz.func68, Tryz.ntmps68
  go_wp2_with fail
  refine (digits_any a _ (by omega)).mono ?_
  rintro e w1 ⟨⟨A1, m1, c1, z1, rfl, hd1, ht1, hv1⟩, hb1⟩
  have hf1 := few hd1 ht1 hv1
  have HV1 := Lib.hid hv1
  clear hv1
  go_wp2_with fail
  refine (digits_any b _ (by omega)).mono ?_
  rintro e w2 ⟨⟨A2, m2, c2, z2, rfl, hd2, ht2, hv2⟩, hb2⟩
  have hf2 := few hd2 ht2 hv2
  have HV2 := Lib.hid hv2
  clear hv2
  go_wp2_with fail
  refine (multiply_any _ _ _ _ _ _ _ _ _ (hd1.below hb2) hd2 (by omega) (by omega)).mono ?_
  rintro e w3 ⟨⟨A3, m3, c3, z3, rfl, hd3, ht3, hv3⟩, hb3⟩
  rw [HV1.out, HV2.out] at hv3
  have hf3 : m3 ≤ a.size + b.size := hd3.few ht3 (by
    rw [hv3, P8_add]
    exact Nat.mul_lt_mul'' (sval_lt a) (sval_lt b))
  have HV3 := Lib.hid hv3
  clear hv3
  go_wp2_with fail
  refine (number_any _ _ _ _ _ hd3 (by omega)).mono ?_
  rintro e w4 ⟨rfl, hb4⟩
  rw [HV3.out]
  go_wp2_with fail
  go_ret
  exact ⟨rfl, below_then (below_then (below_then hb1 hb2) hb3) hb4⟩

set_option maxHeartbeats 400000 in
theorem Sub_any (a b : ByteArray) (w : World) (ha : a.size ≤ 100000) (hb : b.size ≤ 100000) :
    Calls Tryz.prog 100 #[.string a, .string b] w fun e w' => e = .returned (subRes (sval a) (sval b)) ∧ Below w.heap.size w w' := by
  go_enter Tryz.func100, Tryz.ntmps100
  go_wp2_with fail
  refine (digits_any a _ (by omega)).mono ?_
  rintro e w1 ⟨⟨A1, m1, c1, z1, rfl, hd1, ht1, hv1⟩, hb1⟩
  have hf1 := few hd1 ht1 hv1
  have HV1 := Lib.hid hv1
  clear hv1
  go_wp2_with fail
  refine (digits_any b _ (by omega)).mono ?_
  rintro e w2 ⟨⟨A2, m2, c2, z2, rfl, hd2, ht2, hv2⟩, hb2⟩
  have hf2 := few hd2 ht2 hv2
  have HV2 := Lib.hid hv2
  clear hv2
  have hd1' := hd1.below hb2
  have hcm := compare_any _ _ _ _ _ _ _ _ _ hd1' hd2 (by omega) (by omega) ht1 ht2
  rw [HV1.out, HV2.out] at hcm
  rcases Nat.lt_or_ge (sval a) (sval b) with hlt | hge
  · rw [cmpI_lt hlt] at hcm
    have HC := Lib.hid hcm
    have HLT := Lib.hid hlt
    clear hcm hlt
    go_wp2_with fail
    refine HC.out.mono ?_
    rintro e w3 ⟨rfl, hb3⟩
    go_wp2_with fail
    go_ret2
    exact ⟨by unfold subRes; rw [if_neg (by have := HLT.out; omega)]; rfl, below_then (below_then hb1 hb2) hb3⟩
  · obtain ⟨z, hz, hz0⟩ : ∃ z, cmpI (sval a) (sval b) = z ∧ 0 ≤ z := by
      rcases Nat.lt_or_ge (sval b) (sval a) with h1 | h1
      · exact ⟨1, cmpI_gt h1, by omega⟩
      · exact ⟨0, cmpI_eq (by omega), by omega⟩
    rw [hz] at hcm
    have hmm : m2 ≤ m1 := by
      rcases Nat.lt_or_ge m1 m2 with h1 | h1
      · exfalso
        have := ht2.lt_of_len hd1.lt (by rw [hd1.len, hd2.len]; exact h1)
        rw [HV1.out, HV2.out] at this
        omega
      · exact h1
    have HC := Lib.hid hcm
    have HGE := Lib.hid hge
    clear hcm hge hz
    go_wp2_with fail
    refine HC.out.mono ?_
    rintro e w3 ⟨rfl, hb3⟩
    go_wp2_with fail
    refine (subtract_any _ _ _ _ _ _ _ _ _ (hd1'.below hb3) (hd2.below hb3) (by omega) hmm (by rw [HV1.out, HV2.out]; exact HGE.out)).mono ?_
    rintro e w4 ⟨⟨A3, m3, c3, z3, rfl, hd3, ht3, hv3⟩, hb4⟩
    rw [HV1.out, HV2.out] at hv3
    have hf3 : m3 ≤ a.size := hd3.few ht3 (by
      rw [hv3]
      have := sval_lt a
      omega)
    have HV3 := Lib.hid hv3
    clear hv3
    go_wp2_with fail
    refine (number_any _ _ _ _ _ hd3 (by omega)).mono ?_
    rintro e w5 ⟨rfl, hb5⟩
    rw [HV3.out]
    go_wp2_with fail
    go_ret2
    exact ⟨by unfold subRes; rw [if_pos HGE.out]; rfl, below_then (below_then (below_then (below_then hb1 hb2) hb3) hb4) hb5⟩

set_option maxHeartbeats 400000 in
theorem Quo_any (a b : ByteArray) (w : World) (ha : a.size ≤ 100000) (hb : b.size ≤ 100000) :
    Calls Tryz.prog 66 #[.string a, .string b] w fun e w' => e = .returned (quoRes (sval a) (sval b)) ∧ Below w.heap.size w w' := by
  go_enter Tryz.func66, Tryz.ntmps66
  go_wp2_with fail
  refine (digits_any b _ (by omega)).mono ?_
  rintro e w1 ⟨⟨A2, m2, c2, z2, rfl, hd2, ht2, hv2⟩, hb1⟩
  have hf2 := few hd2 ht2 hv2
  by_cases h0 : m2 = 0
  · subst h0
    have e0 : sval b = 0 := by
      rw [← hv2, List.eq_nil_of_length_eq_zero hd2.len]; rfl
    have H0 := Lib.hid e0
    clear e0 hv2
    go_wp2_with fail
    go_ret3
    exact ⟨by unfold quoRes; rw [if_pos H0.out]; rfl, hb1⟩
  · have hp : 0 < val z2 := by
      have := ht2.ge (by rw [hd2.len]; omega)
      have := P32_pos (z2.length - 1)
      omega
    have hbz : ((m2 : Int) == 0) = false := by rw [beq_eq_false_iff_ne]; omega
    have HV2 := Lib.hid hv2
    have HP := Lib.hid hp
    clear hv2 hp
    go_wp2_with fail
    refine (digits_any a _ (by omega)).mono ?_
    rintro e w2 ⟨⟨A1, m1, c1, z1, rfl, hd1, ht1, hv1⟩, hb2⟩
    have hf1 := few hd1 ht1 hv1
    have HV1 := Lib.hid hv1
    clear hv1
    go_wp2_with fail
    refine (divide_any _ _ _ _ _ _ _ _ _ hd1 (hd2.below hb2) (by omega) (by omega) ht1 ht2 HP.out).mono ?_
    rintro e w3 ⟨⟨A3, m3, c3, q1, A4, m4, c4, r1, rfl, hd3, ht3, hv3, hd4, ht4, hv4⟩, hb3⟩
    rw [HV1.out, HV2.out] at hv3 hv4
    have hf3 : m3 ≤ a.size := hd3.few ht3 (by
      rw [hv3]
      have := sval_lt a
      have := Nat.div_le_self (sval a) (sval b)
      omega)
    have hf4 : m4 ≤ a.size := hd4.few ht4 (by
      rw [hv4]
      have := sval_lt a
      have := Nat.mod_le (sval a) (sval b)
      omega)
    have HV3 := Lib.hid hv3
    have HV4 := Lib.hid hv4
    clear hv3 hv4
    go_wp2_with fail
    refine (number_any _ _ _ _ _ hd3 (by omega)).mono ?_
    rintro e w4 ⟨rfl, hb4⟩
    rw [HV3.out]
    go_wp2_with fail
    refine (number_any _ _ _ _ _ (hd4.below hb4) (by omega)).mono ?_
    rintro e w5 ⟨rfl, hb5⟩
    rw [HV4.out]
    go_wp2_with fail
    go_ret3
    exact ⟨by unfold quoRes; rw [if_neg (by rw [← HV2.out]; have := HP.out; omega)]; rfl, below_then (below_then (below_then (below_then hb1 hb2) hb3) hb4) hb5⟩

set_option maxHeartbeats 1000000 in
theorem Gcd_any (a b : ByteArray) (w : World) (ha : a.size ≤ 100000) (hb : b.size ≤ 100000) :
    Calls Tryz.prog 67 #[.string a, .string b] w fun e w' => e = .returned (.string (natS (Nat.gcd (sval a) (sval b)))) ∧ Below w.heap.size w w' := by
  go_enter Tryz.func67, Tryz.ntmps67
  go_wp2_with fail
  refine (digits_any a _ (by omega)).mono ?_
  rintro e w1 ⟨⟨A1, m1, c1, z1, rfl, hd1, ht1, hv1⟩, hb1⟩
  have hf1 := few hd1 ht1 hv1
  have HV1 := Lib.hid hv1
  clear hv1
  go_wp2_with fail
  refine (digits_any b _ (by omega)).mono ?_
  rintro e w2 ⟨⟨A2, m2, c2, z2, rfl, hd2, ht2, hv2⟩, hb2⟩
  have hf2 := few hd2 ht2 hv2
  have HV2 := Lib.hid hv2
  clear hv2
  go_wp2_with fail
  go_loopg [5, 6] (val z2) (fun g s5 s6 wr => ∃ (A : Option Addr) (m c : Nat) (xs : List Nat) (B : Option Addr) (n d : Nat) (ys : List Nat), s5 = .slice A m c ∧ s6 = .slice B n d ∧ Dig wr A m c xs ∧ Dig wr B n d ys ∧ Trim xs ∧ Trim ys ∧ g = val ys ∧ m ≤ a.size + b.size ∧ n ≤ a.size + b.size ∧ Hid (Nat.gcd (val xs) (val ys) = Nat.gcd (sval a) (sval b)) ∧ Below w.heap.size w wr)
  case atStart => exact ⟨A1, m1, c1, z1, A2, m2, c2, z2, rfl, rfl, hd1.below hb2, hd2, ht1, ht2, rfl, by omega, by omega, by show _ = _; rw [HV1.out, HV2.out], below_then hb1 hb2⟩
  case round =>
    obtain ⟨A, m, c, xs, B, n, d, ys, rfl, rfl, h, k, tx, ty, hg, hm, hn, HG, hb3⟩ := hrel
    by_cases h0 : 0 < n
    · have hp : 0 < val ys := by
        have := ty.ge (by rw [k.len]; omega)
        have := P32_pos (ys.length - 1)
        omega
      have HP := Lib.hid hp
      have HGG := Lib.hid hg
      clear hp hg
      go_wp2_with fail
      refine (divide_any _ _ _ _ _ _ _ _ _ h k (by omega) (by omega) tx ty HP.out).mono ?_
      rintro e w3 ⟨⟨A3, m3, c3, q1, A4, m4, c4, r1, rfl, hd3, ht3, hv3, hd4, ht4, hv4⟩, hb4⟩
      have hf4 : m4 ≤ n := by
        rw [← hd4.len, ← k.len]
        exact ht4.len_le (by rw [hv4]; exact Nat.lt_trans (Nat.mod_lt _ HP.out) (val_lt k.lt))
      have HV4 := Lib.hid hv4
      clear hv3 hv4
      go_wp2_with fail
      go_roundg (val r1)
      case measure => rw [HV4.out, HGG.out]; exact Nat.mod_lt _ HP.out
      case rel => exact ⟨B, n, d, ys, A4, m4, c4, r1, rfl, rfl, k.below hb4, hd4, ty, ht4, rfl, hn, by omega, by show _ = _; rw [HV4.out, ← HG.out, Nat.gcd_comm (val ys), ← Nat.gcd_rec, Nat.gcd_comm], below_then hb3 hb4⟩
    · obtain rfl : n = 0 := by omega
      have hys : ys = [] := List.eq_nil_of_length_eq_zero k.len
      have hG := HG.out
      rw [hys, val, Nat.gcd_zero_right] at hG
      have HG2 := Lib.hid hG
      clear hG hys hg
      go_wp2_with fail
      refine (number_any _ _ _ _ _ h (by omega)).mono ?_
      rintro e w4 ⟨rfl, hb4⟩
      rw [HG2.out]
      go_wp2_with fail
      go_ret
      exact ⟨rfl, below_then hb3 hb4⟩

end Go.Proofs.YtikdkhmeaoafmaaGreatDoor
