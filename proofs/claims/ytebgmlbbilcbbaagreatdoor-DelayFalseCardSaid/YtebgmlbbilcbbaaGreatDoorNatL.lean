/- The exported functions of nat: Of, Int, Right, Cmp, Add, Sub, Mul, Quo, Gcd, Bits. -/
import Derived.Test.YtebgmlbbilcbbaaGreatDoorNatJ
import Derived.Test.YtebgmlbbilcbbaaGreatDoorNatTwo
import Derived.Test.YtebgmlbbilcbbaaGreatDoorNatK
namespace Go.Proofs.YtebgmlbbilcbbaaGreatDoor
open Go.RowKit

theorem P8_le_P32 (k : Nat) : P8 k ≤ P32 k := by rw [P32_P8]; exact Nat.pow_le_pow_right (by omega) (by omega)

theorem Dig.few {w : World} {A : Option Addr} {m c k : Nat} {zs : List Nat} (h : Dig w A m c zs) (ht : Trim zs) (hv : val zs < P8 k) : m ≤ k := by
  rw [← h.len]
  exact ht.len_le (Nat.lt_of_lt_of_le hv (P8_le_P32 k))

theorem few {w : World} {A : Option Addr} {m c : Nat} {zs : List Nat} {s : ByteArray} (h : Dig w A m c zs) (ht : Trim zs) (hv : val zs = sval s) : m ≤ s.size := h.few ht (by rw [hv]; exact sval_lt s)

set_option maxHeartbeats 400000 in
theorem Right_any (s : ByteArray) (w : World) (hs : s.size ≤ 100000) :
    Calls Tryz.prog 138 #[.string s] w fun e w' => e = .returned (.bool (rightB s)) ∧ w = w' := by
  by_cases h0 : s.size = 0
  · have hl : s = ⟨#[]⟩ := by
      cases s with
      | mk d => simp [ByteArray.size] at h0; subst h0; rfl
    subst hl
    go_enter Tryz.func138, Tryz.ntmps138
    go_wp2_with fail
    go_ret
    exact ⟨rfl, rfl⟩
  · have hl0 : 0 < s.size := by omega
    have hne : ¬ s.toList = [] := by rw [ByteArray.toList_eq]; intro e; have := congrArg List.length e; rw [Array.length_toList] at this; exact h0 this
    have hemp : s.toList.isEmpty = false := by simpa using hne
    go_enter Tryz.func138, Tryz.ntmps138
    go_wp2_with fail
    go_ret
    refine ⟨congrArg (fun b => Ending.returned (Value.bool b)) ?_, rfl⟩
    have e : s.data.toList.head? = some s[0] := by
      rw [List.head?_eq_getElem?, List.getElem?_eq_getElem (by rw [Array.length_toList]; exact hl0)]
      rfl
    unfold rightB
    rw [e]
    rw [Bool.eq_iff_iff]
    simp [← UInt8.toNat_inj]

set_option maxHeartbeats 400000 in
theorem Cmp_any (a b : ByteArray) (w : World) (ha : a.size ≤ 100000) (hb : b.size ≤ 100000) :
    Calls Tryz.prog 76 #[.string a, .string b] w fun e w' => e = .returned (.int .i64 (cmpI (sval a) (sval b))) ∧ Below w.heap.size w w' := by
  go_enter Tryz.func76, Tryz.ntmps76
  go_wp2_with fail
  refine (digits_any a _ (by omega)).mono ?_
  rintro e w1 ⟨⟨A1, m1, c1, z1, rfl, hd1, ht1, hv1⟩, hb1⟩
  have hf1 := few hd1 ht1 hv1
  have HV1 := Lib.hid hv1
  clear hv1
  go_wp2_with fail
  refine (digits_any b _ (by omega)).mono ?_
  rintro e w2 ⟨⟨A2, m2, c2, z2, rfl, hd2, ht2, hv2⟩, hb2⟩
  have hf2 := few hd2 ht2 hv2
  have HV2 := Lib.hid hv2
  clear hv2
  go_wp2_with fail
  refine (compare_any _ _ _ _ _ _ _ _ _ (hd1.below hb2) hd2 (by omega) (by omega) ht1 ht2).mono ?_
  rintro e w3 ⟨rfl, hb3⟩
  rw [HV1.out, HV2.out]
  go_wp2_with fail
  go_ret
  exact ⟨rfl, below_then (below_then hb1 hb2) hb3⟩

set_option maxHeartbeats 400000 in
theorem Mul_any (a b : ByteArray) (w : World) (ha : a.size ≤ 100000) (hb : b.size ≤ 100000) :
    Calls Tryz.prog 93 #[.string a, .string b] w fun e w' => e = .returned (.string (natS (sval a * sval b))) ∧ Below w.heap.size w w' := by
  go_enter Tryz.func93, Tryz.ntmps93
  go_wp2_with fail
  refine (digits_any a _ (by omega)).mono ?_
  rintro e w1 ⟨⟨A1, m1, c1, z1, rfl, hd1, ht1, hv1⟩, hb1⟩
  have hf1 := few hd1 ht1 hv1
  have HV1 := Lib.hid hv1
  clear hv1
  go_wp2_with fail
  refine (digits_any b _ (by omega)).mono ?_
  rintro e w2 ⟨⟨A2, m2, c2, z2, rfl, hd2, ht2, hv2⟩, hb2⟩
  have hf2 := few hd2 ht2 hv2
  have HV2 := Lib.hid hv2
  clear hv2
  go_wp2_with fail
  refine (multiply_any _ _ _ _ _ _ _ _ _ (hd1.below hb2) hd2 (by omega) (by omega)).mono ?_
  rintro e w3 ⟨⟨A3, m3, c3, z3, rfl, hd3, ht3, hv3⟩, hb3⟩
  rw [HV1.out, HV2.out] at hv3
  have hf3 : m3 ≤ a.size + b.size := hd3.few ht3 (by
    rw [hv3, P8_add]
    exact Nat.mul_lt_mul'' (sval_lt a) (sval_lt b))
  have HV3 := Lib.hid hv3
  clear hv3
  go_wp2_with fail
  refine (number_any _ _ _ _ _ hd3 (by omega)).mono ?_
  rintro e w4 ⟨rfl, hb4⟩
  rw [HV3.out]
  go_wp2_with fail
  go_ret
  exact ⟨rfl, below_then (below_then (below_then hb1 hb2) hb3) hb4⟩

set_option maxHeartbeats 400000 in
theorem Quo_any (a b : ByteArray) (w : World) (ha : a.size ≤ 100000) (hb : b.size ≤ 100000) :
    Calls Tryz.prog 134 #[.string a, .string b] w fun e w' => e = .returned (quoRes (sval a) (sval b)) ∧ Below w.heap.size w w' := by
  go_enter Tryz.func134, Tryz.ntmps134
  go_wp2_with fail
  refine (digits_any b _ (by omega)).mono ?_
  rintro e w1 ⟨⟨A2, m2, c2, z2, rfl, hd2, ht2, hv2⟩, hb1⟩
  have hf2 := few hd2 ht2 hv2
  by_cases h0 : m2 = 0
  · subst h0
    have e0 : sval b = 0 := by
      rw [← hv2, List.eq_nil_of_length_eq_zero hd2.len]; rfl
    have H0 := Lib.hid e0
    clear e0 hv2
    go_wp2_with fail
    go_ret3
    exact ⟨by unfold quoRes; rw [if_pos H0.out]; rfl, hb1⟩
  · have hp : 0 < val z2 := by
      have := ht2.ge (by rw [hd2.len]; omega)
      have := P32_pos (z2.length - 1)
      omega
    have hbz : ((m2 : Int) == 0) = false := by rw [beq_eq_false_iff_ne]; omega
    have HV2 := Lib.hid hv2
    have HP := Lib.hid hp
    clear hv2 hp
    go_wp2_with fail
    refine (digits_any a _ (by omega)).mono ?_
    rintro e w2 ⟨⟨A1, m1, c1, z1, rfl, hd1, ht1, hv1⟩, hb2⟩
    have hf1 := few hd1 ht1 hv1
    have HV1 := Lib.hid hv1
    clear hv1
    go_wp2_with fail
    refine (divide_any _ _ _ _ _ _ _ _ _ hd1 (hd2.below hb2) (by omega) (by omega) ht1 ht2 HP.out).mono ?_
    rintro e w3 ⟨⟨A3, m3, c3, q1, A4, m4, c4, r1, rfl, hd3, ht3, hv3, hd4, ht4, hv4⟩, hb3⟩
    rw [HV1.out, HV2.out] at hv3 hv4
    have hf3 : m3 ≤ a.size := hd3.few ht3 (by
      rw [hv3]
      have := sval_lt a
      have := Nat.div_le_self (sval a) (sval b)
      omega)
    have hf4 : m4 ≤ a.size := hd4.few ht4 (by
      rw [hv4]
      have := sval_lt a
      have := Nat.mod_le (sval a) (sval b)
      omega)
    have HV3 := Lib.hid hv3
    have HV4 := Lib.hid hv4
    clear hv3 hv4
    go_wp2_with fail
    refine (number_any _ _ _ _ _ hd3 (by omega)).mono ?_
    rintro e w4 ⟨rfl, hb4⟩
    rw [HV3.out]
    go_wp2_with fail
    refine (number_any _ _ _ _ _ (hd4.below hb4) (by omega)).mono ?_
    rintro e w5 ⟨rfl, hb5⟩
    rw [HV4.out]
    go_wp2_with fail
    go_ret3
    exact ⟨by unfold quoRes; rw [if_neg (by rw [← HV2.out]; have := HP.out; omega)]; rfl, below_then (below_then (below_then (below_then hb1 hb2) hb3) hb4) hb5⟩

set_option maxHeartbeats 400000 in
theorem Bits_any (s : ByteArray) (w : World) (hs : s.size ≤ 100000) :
    Calls Tryz.prog 201 #[.string s] w fun e w' => e = .returned (.int .i64 (bitsN (sval s) : Int)) ∧ w = w' := by
  go_enter Tryz.func201, Tryz.ntmps201
  go_wp2_with fail
  refine (strip_any s _).mono ?_
  rintro e w1 ⟨rfl, rfl⟩
  have hsz : (natS (sval s)).size ≤ s.size := natS_size (sval_lt s)
  have hcan := nb_canon (sval s)
  have hval := sval_natS (sval s)
  have hdat : (natS (sval s)).data.toList = nb (sval s) := by simp [natS]
  obtain ⟨t, ht⟩ : ∃ t, t = natS (sval s) := ⟨_, rfl⟩
  rw [← ht] at hsz hval hdat ⊢
  rw [← hdat] at hcan
  have HV := Lib.hid hval
  have HC := Lib.hid hcan
  clear ht hval hcan hdat
  by_cases h0 : t.size = 0
  · have hl : t = ⟨#[]⟩ := by
      cases t with
      | mk d => simp [ByteArray.size] at h0; subst h0; rfl
    subst hl
    clear h0
    go_wp2_with fail
    go_ret
    refine ⟨?_, rfl⟩
    rw [← HV.out]
    rfl
  · have hl0 : 0 < t.size := by omega
    have hne : ¬ t.toList = [] := by rw [ByteArray.toList_eq]; intro e; have := congrArg List.length e; rw [Array.length_toList] at this; exact h0 this
    have hemp : t.toList.isEmpty = false := by simpa using hne
    go_wp2_with fail
    have hb1 := t[0].toNat_lt
    refine (Tryz.bits_Len8 _ _ (by omega) (by omega)).mono ?_
    rintro e w2 ⟨rfl, rfl⟩
    have hlist : t.data.toList = t[0] :: t.data.toList.tail := by
      have e1 : t.data.toList ≠ [] := by rw [← ByteArray.toList_eq]; exact hne
      rw [← List.cons_head_tail e1]
      congr 1
      rw [List.head_eq_getElem]
      rfl
    have hb0 : t[0].toNat ≠ 0 := by
      have e1 : t.data.toList ≠ [] := by rw [← ByteArray.toList_eq]; exact hne
      have e2 := HC.out e1
      intro e3
      apply e2
      rw [← UInt8.toNat_inj]
      rw [List.head_eq_getElem]
      exact e3
    obtain ⟨i1, i2, i3⟩ := bitLen_facts t[0].toNat hb0 (by omega)
    have htl : t.data.toList.tail.length = t.size - 1 := by rw [List.length_tail, Array.length_toList]; rfl
    have hbits : bitsN (sval s) = 8 * (t.size - 1) + Lib.bitLen t[0].toNat := by
      rw [← HV.out]
      show bitsN (bv t.data.toList) = _
      obtain ⟨k, hk⟩ : ∃ k, Lib.bitLen t[0].toNat = k + 1 := ⟨Lib.bitLen t[0].toNat - 1, by omega⟩
      rw [hlist, hk, bitsN_cons (k := k) (by rw [hk] at i2; simpa using i2) (by rw [hk] at i3; exact i3), htl]
    have hbl8 := Lib.bitLen_le t[0].toNat 8 (by omega) (by omega)
    rw [Int.toNat_natCast]
    obtain ⟨k, hk⟩ : ∃ k, k = Lib.bitLen t[0].toNat := ⟨_, rfl⟩
    rw [← hk] at hbits hbl8 ⊢
    have HB := Lib.hid hbits
    clear hbits hlist hb0 htl i1 i2 i3 hk
    go_wp2_with fail
    go_ret
    refine ⟨?_, rfl⟩
    rw [HB.out]
    exact congrArg (fun z => Ending.returned (Value.int IntKind.i64 z)) (by omega)

end Go.Proofs.YtebgmlbbilcbbaaGreatDoor
