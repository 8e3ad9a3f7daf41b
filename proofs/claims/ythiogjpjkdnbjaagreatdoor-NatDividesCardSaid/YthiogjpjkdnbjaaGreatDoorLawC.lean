/- The law NatDivides: it returns true. -/
import Derived.Test.YthiogjpjkdnbjaaGreatDoorLawB
namespace Go.Proofs.YthiogjpjkdnbjaaGreatDoor
open Go.RowKit

theorem bits_bytes {v k : Nat} (h : v < P8 k) : bitsN v ≤ k * 8 := bitsN_le (by rw [← P8_two]; exact h)
theorem bitsN_pos {n : Nat} (h : 0 < n) : 0 < bitsN n := by
  obtain ⟨k, hk, _, _⟩ := bitsN_bounds (n := n) (by omega)
  omega
theorem bitsN_mul {x y : Nat} (hx : 0 < x) (hy : 0 < y) : bitsN (x * y) = bitsN x + bitsN y ∨ bitsN (x * y) + 1 = bitsN x + bitsN y := by
  obtain ⟨i, hi, i1, i2⟩ := bitsN_bounds (n := x) (by omega)
  obtain ⟨j, hj, j1, j2⟩ := bitsN_bounds (n := y) (by omega)
  have h1 : 2 ^ (i + j) ≤ x * y := by rw [Nat.pow_add]; exact Nat.mul_le_mul i1 j1
  have h2 : x * y < 2 ^ (i + j + 1 + 1) := by
    rw [show i + j + 1 + 1 = (i + 1) + (j + 1) by omega, Nat.pow_add]
    exact Nat.mul_lt_mul'' i2 j2
  rw [hi, hj]
  rcases Nat.lt_or_ge (x * y) (2 ^ (i + j + 1)) with h3 | h3
  · rw [bitsN_eq h1 h3]; omega
  · rw [bitsN_eq h3 h2]; omega

set_option maxRecDepth 100000 in
set_option maxHeartbeats 1000000 in
theorem NatDivides_zero (A : Option Addr) (n c : Nat) (B : Option Addr) (m d : Nat) (a b : ByteArray) (w : World) (ht : Pow10 w) (ha : a.size ≤ 40) (hb : b.size ≤ 40) (h0 : sval b = 0)
    (HMA : Hid (∀ W, Below w.heap.size w W → Calls Tryz.prog 14 #[.slice A n c] W fun e w' => e = .returned (.string a) ∧ W = w'))
    (HMB : Hid (∀ W, Below w.heap.size w W → Calls Tryz.prog 14 #[.slice B m d] W fun e w' => e = .returned (.string b) ∧ W = w')) :
    Calls Tryz.prog 12 #[.slice A n c, .slice B m d] w fun e w' => e = .returned (.bool true) ∧ Below w.heap.size w w' := by
  have HT := Lib.hid ht
  clear ht
  have H1 := Lib.hid (ret_quo0 (a := a) (b := b) (by omega) (by omega) h0)
  have H2 := Lib.hid ((ret_bits (a := b) (by omega) rfl).of (u := .int .i64 0) (by rw [h0]; rfl))
  clear h0
  have hB := Below.refl w.heap.size w
  go_enter Tryz.func12, Tryz.ntmps12
  go_wp2_with (first
    | (go_at_call 13; (with_reducible refine (sanity_any _ (HT.out.below hB)).mono ?_); rintro e w' ⟨rfl, hb''⟩; replace hB := below_then hB hb''; clear hb'')
    | (go_at_call 14; (with_reducible refine (HMA.out _ hB).mono ?_); rintro e w' ⟨rfl, rfl⟩)
    | (go_at_call 14; (with_reducible refine (HMB.out _ hB).mono ?_); rintro e w' ⟨rfl, rfl⟩)
    | (go_at_call 19; (with_reducible refine (H1.out _).mono ?_); rintro e w' ⟨rfl, hb''⟩; replace hB := below_then hB hb''; clear hb'')
    | (go_at_call 34; (with_reducible refine (H2.out _).mono ?_); rintro e w' ⟨rfl, hb''⟩; replace hB := below_then hB hb''; clear hb''))
  go_ret
  exact ⟨rfl, hB⟩

set_option maxRecDepth 100000 in
set_option maxHeartbeats 2000000 in
theorem NatDivides_pos (A : Option Addr) (n c : Nat) (B : Option Addr) (m d : Nat) (a b : ByteArray) (w : World) (ht : Pow10 w) (ha : a.size ≤ 40) (hb : b.size ≤ 40) (h0 : 0 < sval b)
    (HMA : Hid (∀ W, Below w.heap.size w W → Calls Tryz.prog 14 #[.slice A n c] W fun e w' => e = .returned (.string a) ∧ W = w'))
    (HMB : Hid (∀ W, Below w.heap.size w W → Calls Tryz.prog 14 #[.slice B m d] W fun e w' => e = .returned (.string b) ∧ W = w')) :
    Calls Tryz.prog 12 #[.slice A n c, .slice B m d] w fun e w' => e = .returned (.bool true) ∧ Below w.heap.size w w' := by
  have HT := Lib.hid ht
  clear ht
  have hva := sval_le ha
  have hvb := sval_le hb
  have ha' : a.size ≤ 1000 := by omega
  have hb' : b.size ≤ 1000 := by omega
  have hq : sval a / sval b < P8 40 := Nat.lt_of_le_of_lt (Nat.div_le_self _ _) hva
  have hr : sval a % sval b < P8 40 := Nat.lt_of_le_of_lt (Nat.mod_le _ _) hva
  have sQ := natS_sz hq (by omega)
  have sR := natS_sz hr (by omega)
  have sV := natS_sz hva (by omega)
  have hbq := P8_prod hvb hq
  have sBQ := natS_sz hbq (by omega)
  have hab := P8_prod hva hvb
  have sM := natS_sz hab (by omega)
  have H1 := Lib.hid (ret_quo ha' hb' rfl rfl (by omega))
  have H3 := Lib.hid (ret_cmp sR hb' (r := -1) (by rw [sval_natS]; exact cmpI_lt (Nat.mod_lt _ h0)))
  have H4 := Lib.hid (ret_mul hb' sQ (n := sval b * (sval a / sval b)) (by rw [sval_natS]))
  have H5 := Lib.hid (ret_add sBQ sR (n := sval a) (by rw [sval_natS, sval_natS]; exact Nat.div_add_mod _ _))
  have H6 := Lib.hid (ret_cmp sV ha' (r := 0) (by rw [sval_natS]; exact cmpI_eq rfl))
  have H7 := Lib.hid (ret_right sQ (right_natS _))
  have H8 := Lib.hid (ret_right sR (right_natS _))
  have H9 := Lib.hid (ret_mul ha' hb' rfl)
  obtain ⟨x, hx⟩ : ∃ x, x = bitsN (sval a) := ⟨_, rfl⟩
  obtain ⟨y, hy⟩ : ∃ y, y = bitsN (sval b) := ⟨_, rfl⟩
  obtain ⟨z, hz⟩ : ∃ z, z = bitsN (sval a * sval b) := ⟨_, rfl⟩
  have H10 := Lib.hid (ret_bits ha' hx.symm)
  have H11 := Lib.hid (ret_bits hb' hy.symm)
  have H12 := Lib.hid (ret_bits sM (n := z) (by rw [sval_natS]; exact hz.symm))
  have hyp : 0 < y := by rw [hy]; exact bitsN_pos h0
  have hcase : (x = 0 ∧ z = 0) ∨ (0 < x ∧ (z = x + y ∨ z + 1 = x + y)) := by
    rcases Nat.eq_zero_or_pos (sval a) with e | e
    · left
      rw [hx, hz, e, Nat.zero_mul]
      exact ⟨rfl, rfl⟩
    · right
      rw [hx, hy, hz]
      exact ⟨bitsN_pos e, bitsN_mul e h0⟩
  have hxl : x ≤ 40 * 8 := by rw [hx]; exact bits_bytes hva
  have hyl : y ≤ 40 * 8 := by rw [hy]; exact bits_bytes hvb
  clear hx hy hz hva hvb hq hr hbq hab h0
  generalize natS (sval a / sval b) = tQ at *
  generalize natS (sval a % sval b) = tR at *
  generalize natS (sval b * (sval a / sval b)) = tBQ at *
  generalize natS (sval a * sval b) = tM at *
  generalize natS (sval a) = tA at *
  have hy0 : ((y : Int) == 0) = false := by rw [beq_eq_false_iff_ne]; omega
  have hB := Below.refl w.heap.size w
  rcases hcase with ⟨rfl, rfl⟩ | ⟨hxp, rfl | hz⟩
  · go_enter Tryz.func12, Tryz.ntmps12
    go_wp2_with (first
      | (go_at_call 13; (with_reducible refine (sanity_any _ (HT.out.below hB)).mono ?_); rintro e w' ⟨rfl, hb''⟩; replace hB := below_then hB hb''; clear hb'')
      | (go_at_call 14; (with_reducible refine (HMA.out _ hB).mono ?_); rintro e w' ⟨rfl, rfl⟩)
      | (go_at_call 14; (with_reducible refine (HMB.out _ hB).mono ?_); rintro e w' ⟨rfl, rfl⟩)
      | (go_at_call 19; (with_reducible refine (H1.out _).mono ?_); rintro e w' ⟨rfl, hb''⟩; replace hB := below_then hB hb''; clear hb'')
      | (go_at_call 40; (with_reducible refine (H3.out _).mono ?_); rintro e w' ⟨rfl, hb''⟩; replace hB := below_then hB hb''; clear hb'')
      | (go_at_call 30; (with_reducible refine (H4.out _).mono ?_); rintro e w' ⟨rfl, hb''⟩; replace hB := below_then hB hb''; clear hb'')
      | (go_at_call 39; (with_reducible refine (H5.out _).mono ?_); rintro e w' ⟨rfl, hb''⟩; replace hB := below_then hB hb''; clear hb'')
      | (go_at_call 40; (with_reducible refine (H6.out _).mono ?_); rintro e w' ⟨rfl, hb''⟩; replace hB := below_then hB hb''; clear hb'')
      | (go_at_call 36; (with_reducible refine (H7.out _).mono ?_); rintro e w' ⟨rfl, hb''⟩; replace hB := below_then hB hb''; clear hb'')
      | (go_at_call 36; (with_reducible refine (H8.out _).mono ?_); rintro e w' ⟨rfl, hb''⟩; replace hB := below_then hB hb''; clear hb'')
      | (go_at_call 30; (with_reducible refine (H9.out _).mono ?_); rintro e w' ⟨rfl, hb''⟩; replace hB := below_then hB hb''; clear hb'')
      | (go_at_call 34; (with_reducible refine (H10.out _).mono ?_); rintro e w' ⟨rfl, hb''⟩; replace hB := below_then hB hb''; clear hb'')
      | (go_at_call 34; (with_reducible refine (H11.out _).mono ?_); rintro e w' ⟨rfl, hb''⟩; replace hB := below_then hB hb''; clear hb'')
      | (go_at_call 34; (with_reducible refine (H12.out _).mono ?_); rintro e w' ⟨rfl, hb''⟩; replace hB := below_then hB hb''; clear hb''))
    go_ret
    exact ⟨rfl, hB⟩
  · have hx0 : ((x : Int) == 0) = false := by rw [beq_eq_false_iff_ne]; omega
    have hd : (x : Int) + (y : Int) - ((x + y : Nat) : Int) = 0 := by omega
    go_enter Tryz.func12, Tryz.ntmps12
    go_wp2_with (first
      | (go_at_call 13; (with_reducible refine (sanity_any _ (HT.out.below hB)).mono ?_); rintro e w' ⟨rfl, hb''⟩; replace hB := below_then hB hb''; clear hb'')
      | (go_at_call 14; (with_reducible refine (HMA.out _ hB).mono ?_); rintro e w' ⟨rfl, rfl⟩)
      | (go_at_call 14; (with_reducible refine (HMB.out _ hB).mono ?_); rintro e w' ⟨rfl, rfl⟩)
      | (go_at_call 19; (with_reducible refine (H1.out _).mono ?_); rintro e w' ⟨rfl, hb''⟩; replace hB := below_then hB hb''; clear hb'')
      | (go_at_call 40; (with_reducible refine (H3.out _).mono ?_); rintro e w' ⟨rfl, hb''⟩; replace hB := below_then hB hb''; clear hb'')
      | (go_at_call 30; (with_reducible refine (H4.out _).mono ?_); rintro e w' ⟨rfl, hb''⟩; replace hB := below_then hB hb''; clear hb'')
      | (go_at_call 39; (with_reducible refine (H5.out _).mono ?_); rintro e w' ⟨rfl, hb''⟩; replace hB := below_then hB hb''; clear hb'')
      | (go_at_call 40; (with_reducible refine (H6.out _).mono ?_); rintro e w' ⟨rfl, hb''⟩; replace hB := below_then hB hb''; clear hb'')
      | (go_at_call 36; (with_reducible refine (H7.out _).mono ?_); rintro e w' ⟨rfl, hb''⟩; replace hB := below_then hB hb''; clear hb'')
      | (go_at_call 36; (with_reducible refine (H8.out _).mono ?_); rintro e w' ⟨rfl, hb''⟩; replace hB := below_then hB hb''; clear hb'')
      | (go_at_call 30; (with_reducible refine (H9.out _).mono ?_); rintro e w' ⟨rfl, hb''⟩; replace hB := below_then hB hb''; clear hb'')
      | (go_at_call 34; (with_reducible refine (H10.out _).mono ?_); rintro e w' ⟨rfl, hb''⟩; replace hB := below_then hB hb''; clear hb'')
      | (go_at_call 34; (with_reducible refine (H11.out _).mono ?_); rintro e w' ⟨rfl, hb''⟩; replace hB := below_then hB hb''; clear hb'')
      | (go_at_call 34; (with_reducible refine (H12.out _).mono ?_); rintro e w' ⟨rfl, hb''⟩; replace hB := below_then hB hb''; clear hb''))
    go_ret
    exact ⟨rfl, hB⟩
  · have hx0 : ((x : Int) == 0) = false := by rw [beq_eq_false_iff_ne]; omega
    have hd : (x : Int) + (y : Int) - (z : Int) = 1 := by omega
    clear hz
    go_enter Tryz.func12, Tryz.ntmps12
    go_wp2_with (first
      | (go_at_call 13; (with_reducible refine (sanity_any _ (HT.out.below hB)).mono ?_); rintro e w' ⟨rfl, hb''⟩; replace hB := below_then hB hb''; clear hb'')
      | (go_at_call 14; (with_reducible refine (HMA.out _ hB).mono ?_); rintro e w' ⟨rfl, rfl⟩)
      | (go_at_call 14; (with_reducible refine (HMB.out _ hB).mono ?_); rintro e w' ⟨rfl, rfl⟩)
      | (go_at_call 19; (with_reducible refine (H1.out _).mono ?_); rintro e w' ⟨rfl, hb''⟩; replace hB := below_then hB hb''; clear hb'')
      | (go_at_call 40; (with_reducible refine (H3.out _).mono ?_); rintro e w' ⟨rfl, hb''⟩; replace hB := below_then hB hb''; clear hb'')
      | (go_at_call 30; (with_reducible refine (H4.out _).mono ?_); rintro e w' ⟨rfl, hb''⟩; replace hB := below_then hB hb''; clear hb'')
      | (go_at_call 39; (with_reducible refine (H5.out _).mono ?_); rintro e w' ⟨rfl, hb''⟩; replace hB := below_then hB hb''; clear hb'')
      | (go_at_call 40; (with_reducible refine (H6.out _).mono ?_); rintro e w' ⟨rfl, hb''⟩; replace hB := below_then hB hb''; clear hb'')
      | (go_at_call 36; (with_reducible refine (H7.out _).mono ?_); rintro e w' ⟨rfl, hb''⟩; replace hB := below_then hB hb''; clear hb'')
      | (go_at_call 36; (with_reducible refine (H8.out _).mono ?_); rintro e w' ⟨rfl, hb''⟩; replace hB := below_then hB hb''; clear hb'')
      | (go_at_call 30; (with_reducible refine (H9.out _).mono ?_); rintro e w' ⟨rfl, hb''⟩; replace hB := below_then hB hb''; clear hb'')
      | (go_at_call 34; (with_reducible refine (H10.out _).mono ?_); rintro e w' ⟨rfl, hb''⟩; replace hB := below_then hB hb''; clear hb'')
      | (go_at_call 34; (with_reducible refine (H11.out _).mono ?_); rintro e w' ⟨rfl, hb''⟩; replace hB := below_then hB hb''; clear hb'')
      | (go_at_call 34; (with_reducible refine (H12.out _).mono ?_); rintro e w' ⟨rfl, hb''⟩; replace hB := below_then hB hb''; clear hb''))
    go_ret
    exact ⟨rfl, hB⟩

theorem NatDivides_any (A : Option Addr) (n c : Nat) (l : List UInt8) (B : Option Addr) (m d : Nat) (k : List UInt8) (w : World) (ht : Pow10 w) (hx : BDg w A n c l) (hy : BDg w B m d k) (hn : n ≤ 9223372036854775807) (hm : m ≤ 9223372036854775807) :
    Calls Tryz.prog 12 #[.slice A n c, .slice B m d] w fun e w' => e = .returned (.bool true) ∧ Below w.heap.size w w' := by
  rcases Nat.eq_zero_or_pos (sval (madeS k)) with h0 | h0
  · exact NatDivides_zero A n c B m d (madeS l) (madeS k) w ht (madeS_size l) (madeS_size k) h0 (Lib.hid fun W hW => rMade A n c l W (hx.below hW) hn) (Lib.hid fun W hW => rMade B m d k W (hy.below hW) hm)
  · exact NatDivides_pos A n c B m d (madeS l) (madeS k) w ht (madeS_size l) (madeS_size k) h0 (Lib.hid fun W hW => rMade A n c l W (hx.below hW) hn) (Lib.hid fun W hW => rMade B m d k W (hy.below hW) hm)

end Go.Proofs.YthiogjpjkdnbjaaGreatDoor
