/- The reference's Int, small and Cmp: what they return. -/
import Derived.Test.YthiogjpjkdnbjaaGreatDoorRefA
namespace Go.Proofs.YthiogjpjkdnbjaaGreatDoor
open Go.RowKit

theorem bv_take_le (l : List UInt8) (k : Nat) : bv (l.take k) ≤ bv l := by
  have e := bv_append (l.take k) (l.drop k)
  rw [List.take_append_drop] at e
  have := Nat.le_mul_of_pos_right (bv (l.take k)) (P8_pos (l.drop k).length)
  omega
theorem take_byte (s : ByteArray) {k : Nat} (h : k < s.size) : s.data.toList.take (k + 1) = s.data.toList.take k ++ [s[k]] := by
  rw [List.take_succ_eq_append_getElem (by simpa using h)]; rfl
theorem bv_take_byte (s : ByteArray) {k : Nat} (h : k < s.size) : bv (s.data.toList.take (k + 1)) = bv (s.data.toList.take k) * 256 + s[k].toNat := by
  rw [take_byte s h, bv_snoc]
theorem size_len (s : ByteArray) : s.data.toList.length = s.size := by rw [Array.length_toList]; rfl
theorem natS_canon (v : Nat) : Canon (natS v).data.toList := by unfold natS; simpa using nb_canon v
/-- The size of a number's string: the least that suffices. -/
theorem natS_ge {v k : Nat} (h : k < (natS v).size) : P8 k ≤ v := by
  have h1 : (natS v).data.toList ≠ [] := by intro e; have := size_len (natS v); rw [e] at this; simp at this; omega
  have h2 := canon_pos (natS_canon v) h1
  have h3 : bv (natS v).data.toList = v := sval_natS v
  rw [h3, size_len] at h2
  exact Nat.le_trans (Nat.pow_le_pow_right (by omega) (by omega)) h2
theorem natS_lt {v k : Nat} (h : (natS v).size ≤ k) : v < P8 k := by
  have := sval_lt (natS v)
  rw [sval_natS] at this
  exact Nat.lt_of_lt_of_le this (Nat.pow_le_pow_right (by omega) h)
theorem canon_le (s : ByteArray) : (natS (sval s)).size ≤ s.size := natS_size (sval_lt s)
theorem head_val (s : ByteArray) (h : 0 < s.size) : s[0].toNat * P8 (s.size - 1) ≤ sval s ∧ sval s < (s[0].toNat + 1) * P8 (s.size - 1) := by
  have e := drop_byte s h
  rw [List.drop_zero] at e
  have hl : (s.data.toList.drop (0 + 1)).length = s.size - 1 := by rw [List.length_drop, size_len]
  have h2 : sval s = s[0].toNat * P8 (s.size - 1) + bv (s.data.toList.drop (0 + 1)) := by
    unfold sval
    conv => lhs; rw [e]
    rw [bv_cons, hl]
  have h3 := bv_lt (s.data.toList.drop (0 + 1))
  rw [hl] at h3
  rw [h2, Nat.add_mul]
  omega
theorem P8_7 : P8 7 = 72057594037927936 := rfl
theorem P8_8 : P8 8 = 18446744073709551616 := rfl

/-- Int at a number's own string. -/
theorem int_big {v : Nat} (h : 8 < (natS v).size) : intRes v = .tuple #[.int .i64 0, .bool false] := by
  have := natS_ge h
  rw [P8_8] at this
  unfold intRes
  rw [if_neg (by omega)]
theorem int_top {v : Nat} (h : (natS v).size = 8) (h0 : 0 < (natS v).size) (h2 : 127 < (natS v)[0].toNat) : intRes v = .tuple #[.int .i64 0, .bool false] := by
  have := (head_val (natS v) h0).1
  rw [h, sval_natS, show 8 - 1 = 7 by rfl, P8_7] at this
  unfold intRes
  rw [if_neg (by omega)]
theorem int_fits {v : Nat} (h : (natS v).size < 8 ∨ (natS v).size = 8 ∧ ∀ h0 : 0 < (natS v).size, (natS v)[0].toNat ≤ 127) : v ≤ 9223372036854775807 := by
  rcases h with h | ⟨h, h2⟩
  · have := natS_lt (k := 7) (v := v) (by omega)
    rw [P8_7] at this
    omega
  · have h3 := (head_val (natS v) (by omega)).2
    have h4 := h2 (by omega)
    rw [sval_natS] at h3
    have h5 : P8 ((natS v).size - 1) = 72057594037927936 := by rw [h]; exact P8_7
    rw [h5] at h3
    omega
theorem int_ok {v : Nat} (h : v ≤ 9223372036854775807) : intRes v = .tuple #[.int .i64 (v : Int), .bool true] := by unfold intRes; rw [if_pos h]

set_option maxHeartbeats 400000 in
theorem rInt (s : ByteArray) (w : World) (hs : s.size ≤ 1000000) :
    Calls Tryz.prog 33 #[.string s] w fun e w' => e = .returned (intRes (sval s)) ∧ w = w' := by
  obtain ⟨v, hv⟩ : ∃ v, v = sval s := ⟨_, rfl⟩
  obtain ⟨t, ht⟩ : ∃ t, t = natS v := ⟨_, rfl⟩
  have htl : t.size ≤ 1000000 := by
    rw [ht, hv]; exact Nat.le_trans (canon_le s) hs
  have HC : Hid (∀ W, Calls Tryz.prog 28 #[.string s] W fun e w' => e = .returned (.string t) ∧ W = w') := Lib.hid (fun W => by rw [ht, hv]; exact rCanon s W hs)
  have HV := Lib.hid hv
  rw [← hv]
  clear hv
  by_cases h8 : 8 < t.size
  · have hR := int_big (v := v) (by rw [← ht]; exact h8)
    rw [hR]
    clear hR ht
    go_enter Tryz.func33, Tryz.ntmps33
    go_wp2_with fail
    refine (HC.out _).mono ?_
    rintro e w' ⟨rfl, rfl⟩
    go_wp2_with fail
    go_ret2
    exact ⟨rfl, rfl⟩
  · by_cases he : t.size = 8 ∧ ∃ h0 : 0 < t.size, 127 < t[0].toNat
    · obtain ⟨he, h0, h127⟩ := he
      have hR := int_top (v := v) (by rw [← ht]; exact he) (by rw [← ht]; exact h0) (by subst ht; exact h127)
      rw [hR]
      clear hR ht
      have hb : ((t.size : Int) == 8) = true := by simp; omega
      clear he
      go_enter Tryz.func33, Tryz.ntmps33
      go_wp2_with fail
      refine (HC.out _).mono ?_
      rintro e w' ⟨rfl, rfl⟩
      go_wp2_with fail
      go_ret2
      exact ⟨rfl, rfl⟩
    · have hle : v ≤ 9223372036854775807 := by
        apply int_fits
        subst ht
        rcases Nat.lt_or_ge (natS v).size 8 with h1 | h1
        · exact .inl h1
        · refine .inr ⟨by omega, fun h0 => ?_⟩
          rcases Nat.lt_or_ge 127 (natS v)[0].toNat with h2 | h2
          · exact absurd ⟨by omega, h0, h2⟩ he
          · exact h2
      rw [int_ok hle]
      have hsv : sval t = v := by rw [ht, sval_natS]
      have HSV := Lib.hid hsv
      have hbd : ∀ k, bv (t.data.toList.take k) ≤ 9223372036854775807 := fun k => Nat.le_trans (bv_take_le _ k) (by show sval t ≤ _; rw [hsv]; exact hle)
      have HBD := Lib.hid hbd
      clear hsv hbd ht HV
      have hg : t.size = 8 → ∀ h0 : 0 < t.size, ¬ 127 < t[0].toNat := fun e h0 h => he ⟨e, h0, h⟩
      clear he
      have hcase : (((t.size : Int) == 8) = true ∧ ∃ h0 : 0 < t.size, ¬ 127 < t[0].toNat) ∨ ((t.size : Int) == 8) = false := by
        by_cases h88 : t.size = 8
        · exact .inl ⟨by simp; omega, by omega, hg h88 (by omega)⟩
        · exact .inr (by simp; omega)
      clear hg
      rcases hcase with ⟨hb, h0, h127⟩ | hb
      all_goals
        go_enter Tryz.func33, Tryz.ntmps33
        go_wp2_with fail
        refine (HC.out _).mono ?_
        rintro e w' ⟨rfl, rfl⟩
        go_wp2_with fail
        go_loop [4, 5] (fun n i => ∃ k : Nat, k ≤ t.size ∧ i = .int .i64 (k : Int) ∧ n = .int .i64 (bv (t.data.toList.take k) : Int)) (fun _ i => t.size - (intOf i).toNat)
        case atStart => exact ⟨0, Nat.zero_le _, rfl, by rw [List.take_zero]; rfl⟩
        case round =>
          obtain ⟨k, hk, rfl, rfl⟩ := hrel
          by_cases hlt : k < t.size
          · have h2 := HBD.out (k + 1)
            rw [bv_take_byte t hlt] at h2
            have HN := Lib.hid (bv_take_byte t hlt)
            obtain ⟨x, hx⟩ : ∃ x, x = bv (t.data.toList.take k) := ⟨_, rfl⟩
            rw [← hx] at h2 HN ⊢
            clear hx
            have hbl := t[k].toNat_lt
            go_wp2_with fail
            go_round
            case rel => exact ⟨k + 1, by omega, by go_num, by rw [HN.out]; go_num⟩
            case measure => simp [intOf]; omega
          · obtain rfl : k = t.size := by omega
            have HE : Hid (bv (t.data.toList.take t.size) = v) := Lib.hid (by rw [List.take_of_length_le (by rw [size_len]; exact Nat.le_refl _)]; exact HSV.out)
            go_wp2_with fail
            go_ret2
            exact ⟨by rw [← HE.out]; rfl, rfl⟩

end Go.Proofs.YthiogjpjkdnbjaaGreatDoor
