/- The reference's Pow: what it returns. -/
import Derived.Test.YtebgmlbbilcbbaaGreatDoorRefThree
namespace Go.Proofs.YtebgmlbbilcbbaaGreatDoor
open Go.RowKit

/-- What the reference's Pow returns. -/
def rpowRes (a e m : Nat) : Value := if m = 0 then .tuple #[.string ⟨#[]⟩, .bool false] else .tuple #[.string (natS (a ^ e % m)), .bool true]

theorem half_step (y κ : Nat) : y / 2 ^ κ = 2 * (y / 2 ^ (κ + 1)) + y / 2 ^ κ % 2 := by
  rw [Nat.pow_succ, ← Nat.div_div_eq_div_mul]; omega
theorem exp_step (E y s : Nat) (hs : s < 8) : E * 2 ^ (8 - s) + y / 2 ^ s = 2 * (E * 2 ^ (8 - (s + 1)) + y / 2 ^ (s + 1)) + y / 2 ^ s % 2 := by
  have h := half_step y s
  have e : 2 ^ (8 - s) = 2 ^ (8 - (s + 1)) * 2 := by rw [← Nat.pow_succ]; congr 1; omega
  rw [e, ← Nat.mul_assoc]
  omega

set_option maxRecDepth 100000 in
set_option maxHeartbeats 2000000 in
theorem rPow (a s m : ByteArray) (w : World) (ha : a.size ≤ 10000) (hs : s.size ≤ 100000) (hm : m.size ≤ 10000) (h0 : sval m ≠ 0) :
    Calls Tryz.prog 82 #[.string a, .string s, .string m] w fun e w' => e = .returned (.tuple #[.string (natS (sval a ^ sval s % sval m)), .bool true]) ∧ Below w.heap.size w w' := by
  obtain ⟨M, hM⟩ : ∃ M, M = sval m := ⟨_, rfl⟩
  obtain ⟨A, hA⟩ : ∃ A, A = sval a := ⟨_, rfl⟩
  have hMp : 0 < M := by omega
  have hMl : M < P8 10000 := by rw [hM]; exact Nat.lt_of_lt_of_le (sval_lt m) (P8_mono hm)
  have HRS : Hid (∀ x, (natS (x % M)).size ≤ 10000) := Lib.hid (fun x => natS_size (Nat.lt_trans (Nat.mod_lt x hMp) hMl))
  have HQ : Hid (∀ (t : ByteArray) (W : World), t.size ≤ 100000 → Calls Tryz.prog 71 #[.string t, .string m] W fun e w' => e = .returned (.tuple #[.string (natS (sval t / M)), .string (natS (sval t % M)), .bool true]) ∧ Below W.heap.size W w') := Lib.hid (fun t W ht => by
    have := rQuo t m W ht (by omega)
    unfold quoRes at this
    rw [if_neg h0, ← hM] at this
    exact this)
  rw [← hM, ← hA]
  have HA := Lib.hid hA
  clear hM hA h0
  go_enter Tryz.func82, Tryz.ntmps82
  go_wp2_with fail
  refine (HQ.out a _ (by omega)).mono ?_
  rintro e w1 ⟨rfl, hB⟩
  rw [← HA.out]
  go_wp2_with fail
  refine (rOf 1 _ (by omega)).mono ?_
  rintro e w2 ⟨rfl, hb2⟩
  replace hB := below_then hB hb2
  clear hb2
  go_wp2_with fail
  refine (HQ.out _ _ (by decide)).mono ?_
  rintro e w3 ⟨rfl, hb3⟩
  replace hB := below_then hB hb3
  clear hb3
  go_wp2_with fail
  go_loopw [12, 14, 15] (fun s12 s14 _ wr => ∃ k : Nat, k ≤ s.size ∧ s14 = .int .i64 (k : Int) ∧ s12 = .string (natS (A ^ bv (s.data.toList.take k) % M)) ∧ Below w.heap.size w wr) (fun _ s14 _ _ => s.size - (intOf s14).toNat)
  case atStart =>
    refine ⟨0, by omega, rfl, ?_, hB⟩
    rw [sval_natS]; rfl
  case round =>
    obtain ⟨k, hk, rfl, rfl, hbw⟩ := hrel
    by_cases hlt : k < s.size
    · obtain ⟨E, hE⟩ : ∃ E, E = bv (s.data.toList.take k) := ⟨_, rfl⟩
      obtain ⟨y, hy⟩ : ∃ y, y = s[k].toNat := ⟨_, rfl⟩
      have hyl : y < 256 := by rw [hy]; exact s[k].toNat_lt
      have HN : Hid (bv (s.data.toList.take (k + 1)) = E * 256 + y) := Lib.hid (by rw [hE, hy]; exact bv_take_byte s hlt)
      rw [← hE]
      have HY := Lib.hid hy
      clear hE hy
      obtain ⟨wo, hwo⟩ : ∃ wo : World, wo = wr := ⟨_, rfl⟩
      subst hwo
      go_wp2_with fail
      go_loopw [12, 15] (fun s12 s15 wi => ∃ r : Nat, r ≤ 8 ∧ s15 = .int .i64 ((r : Int) - 1) ∧ s12 = .string (natS (A ^ (E * 2 ^ (8 - r) + y / 2 ^ r) % M)) ∧ Below w.heap.size w wi) (fun _ s15 _ => (intOf s15 + 1).toNat)
      case atStart =>
        refine ⟨8, by omega, rfl, ?_, hbw⟩
        rw [show y / 2 ^ 8 = 0 from Nat.div_eq_of_lt hyl, Nat.sub_self, Nat.pow_zero, Nat.mul_one, Nat.add_zero]
      case round =>
        obtain ⟨r, hr, rfl, rfl, hbi⟩ := hrel
        by_cases hr0 : 0 < r
        · obtain ⟨κ, rfl⟩ : ∃ κ, r = κ + 1 := ⟨r - 1, by omega⟩
          rw [show ((κ + 1 : Nat) : Int) - 1 = (κ : Int) by omega]
          have hst := exp_step E y κ (by omega)
          obtain ⟨e0, he0⟩ : ∃ e0, e0 = E * 2 ^ (8 - (κ + 1)) + y / 2 ^ (κ + 1) := ⟨_, rfl⟩
          rw [← he0] at hst ⊢
          have hpw := pow_step_sq A e0 M
          have hpm := pow_step_mul A (2 * e0) M
          obtain ⟨c0, hc0⟩ : ∃ c0, c0 = A ^ e0 % M := ⟨_, rfl⟩
          rw [← hc0] at hpw ⊢
          have hc0s : (natS c0).size ≤ 10000 := by rw [hc0]; exact HRS.out _
          have hx0s : (natS (A % M)).size ≤ 10000 := HRS.out _
          obtain ⟨c1, hc1⟩ : ∃ c1, c1 = A ^ (2 * e0) % M := ⟨_, rfl⟩
          rw [← hc1] at hpw hpm
          have hc1s : (natS c1).size ≤ 10000 := by rw [hc1]; exact HRS.out _
          have hp1 : (natS (c0 * c0)).size ≤ 100000 := Nat.le_trans (natS_size (by rw [P8_add]; exact Nat.mul_lt_mul'' (natS_lt hc0s) (natS_lt hc0s))) (by omega)
          have hp2 : (natS (c1 * (A % M))).size ≤ 100000 := Nat.le_trans (natS_size (by rw [P8_add]; exact Nat.mul_lt_mul'' (natS_lt hc1s) (natS_lt hx0s))) (by omega)
          have H1 : Hid (∀ W, Calls Tryz.prog 42 #[.string (natS c0), .string (natS c0)] W fun e w' => e = .returned (.string (natS (c0 * c0))) ∧ Below W.heap.size W w') := Lib.hid (fun W => by have := rMul (natS c0) (natS c0) W (by omega) (by omega); rwa [sval_natS] at this)
          have H2 : Hid (∀ W, Calls Tryz.prog 71 #[.string (natS (c0 * c0)), .string m] W fun e w' => e = .returned (.tuple #[.string (natS (c0 * c0 / M)), .string (natS c1), .bool true]) ∧ Below W.heap.size W w') := Lib.hid (fun W => by have := HQ.out (natS (c0 * c0)) W hp1; rwa [sval_natS, hpw] at this)
          have H3 : Hid (∀ W, Calls Tryz.prog 42 #[.string (natS c1), .string (natS (A % M))] W fun e w' => e = .returned (.string (natS (c1 * (A % M)))) ∧ Below W.heap.size W w') := Lib.hid (fun W => by have := rMul (natS c1) (natS (A % M)) W (by omega) (by omega); rwa [sval_natS, sval_natS] at this)
          have H4 : Hid (∀ W, Calls Tryz.prog 71 #[.string (natS (c1 * (A % M))), .string m] W fun e w' => e = .returned (.tuple #[.string (natS (c1 * (A % M) / M)), .string (natS (A ^ (2 * e0 + 1) % M)), .bool true]) ∧ Below W.heap.size W w') := Lib.hid (fun W => by have := HQ.out (natS (c1 * (A % M))) W hp2; rwa [sval_natS, hpm] at this)
          have HC1 := Lib.hid hc1
          have HST := Lib.hid hst
          have hbe : (bits BinOp.and IntKind.u8 ((s[k].toNat : Int) / 2 ^ κ) 1 == 1) = (y / 2 ^ κ % 2 == 1) := by
            have hb1 : s[k].toNat = y := HY.out.symm
            rw [hb1]
            have e := u8_and_nat (y / 2 ^ κ) 1 (Nat.lt_of_le_of_lt (Nat.div_le_self _ _) (by omega)) (by omega)
            rw [show (1 : Nat) = 2 ^ 1 - 1 by rfl, Nat.and_two_pow_sub_one_eq_mod] at e
            have e2 : ((y / 2 ^ κ : Nat) : Int) = (y : Int) / 2 ^ κ := by simp
            rw [e2] at e
            have e3 : bits BinOp.and IntKind.u8 ((y : Int) / 2 ^ κ) 1 = ((y / 2 ^ κ % 2 : Nat) : Int) := e
            rw [e3, Bool.eq_iff_iff]
            simp only [beq_iff_eq]
            omega
          obtain ⟨tb, htb⟩ : ∃ tb, tb = y / 2 ^ κ % 2 := ⟨_, rfl⟩
          rw [← htb] at hbe
          have HTB := Lib.hid htb
          clear hst hpw hpm hc0 hc1 htb he0
          by_cases h1 : tb = 1
          · have hbt : (bits BinOp.and IntKind.u8 ((s[k].toNat : Int) / 2 ^ κ) 1 == 1) = true := by rw [hbe, h1]; rfl
            clear hbe
            have H1' := Lib.hid h1
            clear h1
            go_wp2_with (first
              | (go_at_call 42; (with_reducible refine (H1.out _).mono ?_); rintro e w' ⟨rfl, hb''⟩; replace hbi := below_then hbi hb''; clear hb'')
              | (go_at_call 71; (with_reducible refine (H2.out _).mono ?_); rintro e w' ⟨rfl, hb''⟩; replace hbi := below_then hbi hb''; clear hb'')
              | (go_at_call 42; (with_reducible refine (H3.out _).mono ?_); rintro e w' ⟨rfl, hb''⟩; replace hbi := below_then hbi hb''; clear hb'')
              | (go_at_call 71; (with_reducible refine (H4.out _).mono ?_); rintro e w' ⟨rfl, hb''⟩; replace hbi := below_then hbi hb''; clear hb''))
            go_roundw
            case rel => exact ⟨κ, by omega, rfl, by rw [HST.out, ← HTB.out, H1'.out], hbi⟩
            case measure => simp [intOf]
          · have hbt : (bits BinOp.and IntKind.u8 ((s[k].toNat : Int) / 2 ^ κ) 1 == 1) = false := by rw [hbe]; simpa using h1
            clear hbe
            have H1' : Hid (tb = 0) := Lib.hid (by have := HTB.out; omega)
            clear h1
            go_wp2_with (first
              | (go_at_call 42; (with_reducible refine (H1.out _).mono ?_); rintro e w' ⟨rfl, hb''⟩; replace hbi := below_then hbi hb''; clear hb'')
              | (go_at_call 71; (with_reducible refine (H2.out _).mono ?_); rintro e w' ⟨rfl, hb''⟩; replace hbi := below_then hbi hb''; clear hb''))
            go_roundw
            case rel => exact ⟨κ, by omega, rfl, by rw [HST.out, ← HTB.out, H1'.out, HC1.out]; rfl, hbi⟩
            case measure => simp [intOf]
        · obtain rfl : r = 0 := by omega
          go_wp2_with fail
          go_roundw
          case rel => exact ⟨k + 1, by omega, by go_num, by rw [HN.out]; simp, hbi⟩
          case measure => simp [intOf]; omega
    · obtain rfl : k = s.size := by omega
      have HE : Hid (bv (s.data.toList.take s.size) = sval s) := Lib.hid (by rw [List.take_of_length_le (by rw [size_len]; exact Nat.le_refl _)]; rfl)
      go_wp2_with fail
      go_ret2
      exact ⟨by rw [HE.out]; rfl, hbw⟩

end Go.Proofs.YtebgmlbbilcbbaaGreatDoor
