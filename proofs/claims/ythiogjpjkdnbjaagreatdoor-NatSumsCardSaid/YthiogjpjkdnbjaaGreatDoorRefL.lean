/- The reference's Gcd and Bits: what they return. -/
import Derived.Test.YthiogjpjkdnbjaaGreatDoorRefK
import Derived.Test.YthiogjpjkdnbjaaGreatDoorPlainPow
namespace Go.Proofs.YthiogjpjkdnbjaaGreatDoor
open Go.RowKit

set_option maxRecDepth 100000 in
set_option maxHeartbeats 1000000 in
theorem rGcd (a b : ByteArray) (w : World) (ha : a.size ≤ 50000) (hb : b.size ≤ 50000) :
    Calls Tryz.prog 22 #[.string a, .string b] w fun e w' => e = .returned (.string (natS (Nat.gcd (sval a) (sval b)))) ∧ Below w.heap.size w w' := by
  obtain ⟨s, hs⟩ : ∃ s, s = natS (sval a) := ⟨_, rfl⟩
  obtain ⟨t, ht⟩ : ∃ t, t = natS (sval b) := ⟨_, rfl⟩
  have HA : Hid (∀ W, Calls Tryz.prog 28 #[.string a] W fun e w' => e = .returned (.string s) ∧ W = w') := Lib.hid (fun W => by rw [hs]; exact rCanon a W (by omega))
  have HB : Hid (∀ W, Calls Tryz.prog 28 #[.string b] W fun e w' => e = .returned (.string t) ∧ W = w') := Lib.hid (fun W => by rw [ht]; exact rCanon b W (by omega))
  have HS := Lib.hid hs
  have HT := Lib.hid ht
  clear hs ht
  go_enter Tryz.func22, Tryz.ntmps22
  go_wp2_with fail
  refine (HA.out _).mono ?_
  rintro e w' ⟨rfl, rfl⟩
  go_wp2_with fail
  refine (HB.out _).mono ?_
  rintro e w' ⟨rfl, rfl⟩
  go_wp2_with fail
  go_loopg [0, 1, 5, 6, 7] (sval b) (fun g s0 s1 _ _ _ wr => ∃ x y : Nat, s0 = .string (natS x) ∧ s1 = .string (natS y) ∧ g = y ∧ Hid (x < P8 50000 ∧ y < P8 50000 ∧ Nat.gcd x y = Nat.gcd (sval a) (sval b)) ∧ Below w.heap.size w wr)
  case atStart =>
    exact ⟨sval a, sval b, by rw [HS.out], by rw [HT.out], rfl, Lib.hid ⟨Nat.lt_of_lt_of_le (sval_lt a) (P8_mono ha), Nat.lt_of_lt_of_le (sval_lt b) (P8_mono hb), rfl⟩, Below.refl _ _⟩
  case round =>
    obtain ⟨x, y, rfl, rfl, hg, HF, hbw⟩ := hrel
    have hxs : (natS x).size ≤ 50000 := natS_size HF.out.1
    have hys : (natS y).size ≤ 50000 := natS_size HF.out.2.1
    by_cases hy0 : y = 0
    · have hz : (natS y).size = 0 := natS_zero_size.2 hy0
      have hgcd : x = Nat.gcd (sval a) (sval b) := by have := HF.out.2.2; rw [hy0, Nat.gcd_zero_right] at this; exact this
      have HG := Lib.hid hgcd
      clear hgcd hy0 hg
      have hz2 : (natS y).size ≤ 0 := by omega
      clear hz
      go_wp2_with fail
      go_ret
      exact ⟨by rw [← HG.out]; rfl, hbw⟩
    · have hpos : 0 < (natS y).size := by
        rcases Nat.eq_zero_or_pos (natS y).size with h | h
        · exact absurd (natS_zero_size.1 h) hy0
        · exact h
      have HQ : Hid (∀ W, Calls Tryz.prog 20 #[.string (natS x), .string (natS y)] W fun e w' => e = .returned (.tuple #[.string (natS (x / y)), .string (natS (x % y)), .bool true]) ∧ Below W.heap.size W w') := Lib.hid (fun W => by
        have := rQuo (natS x) (natS y) W (by omega) (by omega)
        unfold quoRes at this
        rw [sval_natS, sval_natS, if_neg hy0] at this
        exact this)
      have HY := Lib.hid hy0
      have HG := Lib.hid hg
      clear hy0 hg
      go_wp2_with fail
      refine (HQ.out _).mono ?_
      rintro e w1 ⟨rfl, hb1⟩
      go_wp2_with fail
      go_roundg (x % y)
      case measure => rw [HG.out]; exact Nat.mod_lt _ (by have := HY.out; omega)
      case rel =>
        refine ⟨y, x % y, rfl, rfl, rfl, Lib.hid ⟨HF.out.2.1, Nat.lt_of_le_of_lt (Nat.mod_le _ _) HF.out.1, ?_⟩, below_then hbw hb1⟩
        rw [← HF.out.2.2, Nat.gcd_comm y, ← Nat.gcd_rec, Nat.gcd_comm]

theorem bitsN_half {v : Nat} (h : 0 < v) : bitsN v = bitsN (v / 2) + 1 := by
  obtain ⟨k, hk, h1, h2⟩ := bitsN_bounds (n := v) (by omega)
  rw [hk]
  cases k with
  | zero =>
    have : v = 1 := by simp at h1 h2; omega
    subst this
    rfl
  | succ k =>
    have e1 : 2 ^ (k + 1) = 2 * 2 ^ k := by rw [Nat.pow_succ, Nat.mul_comm]
    have e2 : 2 ^ (k + 1 + 1) = 4 * 2 ^ k := by rw [Nat.pow_succ, e1]; omega
    rw [e1] at h1
    rw [e2] at h2
    rw [bitsN_eq (n := v / 2) (k := k) (by omega) (by rw [e1]; omega)]
theorem bitsN_head (s : ByteArray) (h : 0 < s.size) (h0 : 0 < s[0].toNat) : bitsN (sval s) = 8 * (s.size - 1) + bitsN s[0].toNat := by
  obtain ⟨k, hk, h1, h2⟩ := bitsN_bounds (n := s[0].toNat) (by omega)
  have e := drop_byte s h
  rw [List.drop_zero] at e
  have hl : (s.data.toList.drop (0 + 1)).length = s.size - 1 := by rw [List.length_drop, size_len]
  unfold sval
  rw [e, bitsN_cons h1 h2, hl, hk]

set_option maxRecDepth 100000 in
set_option maxHeartbeats 1000000 in
theorem rBits (s : ByteArray) (w : World) (hs : s.size ≤ 100000) :
    Calls Tryz.prog 35 #[.string s] w fun e w' => e = .returned (.int .i64 (bitsN (sval s) : Int)) ∧ w = w' := by
  obtain ⟨t, ht⟩ : ∃ t, t = natS (sval s) := ⟨_, rfl⟩
  have htl : t.size ≤ 100000 := by rw [ht]; exact Nat.le_trans (canon_le s) hs
  have hts : sval t = sval s := by rw [ht, sval_natS]
  have HC : Hid (∀ W, Calls Tryz.prog 28 #[.string s] W fun e w' => e = .returned (.string t) ∧ W = w') := Lib.hid (fun W => by rw [ht]; exact rCanon s W (by omega))
  rw [← hts]
  by_cases h0 : t.size = 0
  · have hz : sval t = 0 := by rw [hts]; exact natS_zero_size.1 (by rw [← ht]; exact h0)
    have hb0 : ((t.size : Int) == 0) = true := by rw [beq_iff_eq]; omega
    rw [hz]
    clear hz ht hts h0
    go_enter Tryz.func35, Tryz.ntmps35
    go_wp2_with fail
    refine (HC.out _).mono ?_
    rintro e w' ⟨rfl, rfl⟩
    go_wp2_with fail
    go_ret
    exact ⟨rfl, rfl⟩
  · have hp : 0 < t.size := by omega
    have hb0 : ((t.size : Int) == 0) = false := by rw [beq_eq_false_iff_ne]; omega
    have hhd : 0 < t[0].toNat := by
      have hc := natS_canon (sval s)
      rw [← ht] at hc
      have e := drop_byte t hp
      rw [List.drop_zero] at e
      have hne : t.data.toList ≠ [] := by rw [e]; simp
      have h1 := hc hne
      rcases Nat.eq_zero_or_pos t[0].toNat with h2 | h2
      · exfalso
        apply h1
        have h3 : t.data.toList.head hne = t[0] := by
          have : t.data.toList.head? = some t[0] := by rw [e]; rfl
          rw [List.head?_eq_some_head hne] at this
          simpa using this
        rw [h3]; exact byte_zero h2
      · exact h2
    have HB := Lib.hid (bitsN_head t hp hhd)
    obtain ⟨N, hN⟩ : ∃ N, N = bitsN (sval t) := ⟨_, rfl⟩
    rw [← hN] at HB ⊢
    have hbl := t[0].toNat_lt
    have hNl : N ≤ 8 * t.size := by
      have h1 := HB.out
      have h2 := bitsN_le (v := t[0].toNat) (k := 8) (by omega)
      omega
    clear ht hts h0 hN hhd
    go_enter Tryz.func35, Tryz.ntmps35
    go_wp2_with fail
    refine (HC.out _).mono ?_
    rintro e w' ⟨rfl, rfl⟩
    go_wp2_with fail
    go_loop [3, 4] (fun s3 s4 => ∃ x y : Nat, s3 = .int .i64 (x : Int) ∧ s4 = .int .i64 (y : Int) ∧ y ≤ 255 ∧ Hid (x + bitsN y = N)) (fun _ s4 => (intOf s4).toNat)
    case atStart =>
      refine ⟨8 * (t.size - 1), t[0].toNat, ?_, rfl, by omega, Lib.hid HB.out.symm⟩
      congr 1; omega
    case round =>
      obtain ⟨x, y, rfl, rfl, hy, HX⟩ := hrel
      have hx : x ≤ 8 * t.size := by have := HX.out; omega
      by_cases hy0 : 0 < y
      · have HS : Hid (x + 1 + bitsN (y / 2) = N) := Lib.hid (by rw [← HX.out, bitsN_half hy0]; omega)
        go_wp2_with fail
        go_round
        case rel => exact ⟨x + 1, y / 2, by go_num, by go_num, by omega, HS⟩
        case measure => simp [intOf]; omega
      · obtain rfl : y = 0 := by omega
        go_wp2_with fail
        go_ret
        exact ⟨by rw [← HX.out]; rfl, rfl⟩

end Go.Proofs.YthiogjpjkdnbjaaGreatDoor
