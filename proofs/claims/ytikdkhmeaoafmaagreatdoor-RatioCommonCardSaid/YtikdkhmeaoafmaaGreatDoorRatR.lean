/- The reference of ratio: Right, lowest, value, Of, Make, Sign, Neg. -/
import Derived.Test.YtikdkhmeaoafmaaGreatDoorRatE
namespace Go.Proofs.YtikdkhmeaoafmaaGreatDoor
open Go.RowKit

theorem ret_rright {a : ByteArray} (ha : a.size ≤ 1000) : Ret 58 #[.string a] (.bool (rightB a)) := Ret.quiet fun W => rRight a W (by omega)
theorem ret_rof {n : Int} (h : n ≤ 9223372036854775807) : Ret 19 #[.int .i64 n] (.string (natS n.toNat)) := fun W => rOf n W h
theorem ret_rone : Ret 19 #[.int .i64 1] (.string ⟨#[1]⟩) := fun W => rOf 1 W (by omega)
theorem ret_rcmp {a b : ByteArray} (ha : a.size ≤ 1000) (hb : b.size ≤ 1000) : Ret 51 #[.string a, .string b] (.int .i64 (cmpI (sval a) (sval b))) := Ret.quiet fun W => rCmp a b W (by omega) (by omega)
theorem ret_rgcd {a b : ByteArray} (ha : a.size ≤ 1000) (hb : b.size ≤ 1000) : Ret 69 #[.string a, .string b] (.string (natS (Nat.gcd (sval a) (sval b)))) := fun W => rGcd a b W (by omega) (by omega)
theorem ret_radd {a b : ByteArray} (ha : a.size ≤ 1000) (hb : b.size ≤ 1000) : Ret 62 #[.string a, .string b] (.string (natS (sval a + sval b))) := fun W => rAdd a b W (by omega) (by omega)
theorem ret_rmul {a b : ByteArray} (ha : a.size ≤ 1000) (hb : b.size ≤ 1000) : Ret 45 #[.string a, .string b] (.string (natS (sval a * sval b))) := fun W => rMul a b W (by omega) (by omega)
theorem ret_rsub {a b : ByteArray} {m n : Nat} (ha : a.size ≤ 1000) (hb : b.size ≤ 1000) (h1 : sval a = m) (h2 : sval b = n) (h : n ≤ m) : Ret 75 #[.string a, .string b] (.tuple #[.string (natS (m - n)), .bool true]) := fun W => by
  have := rSub a b W (by omega) (by omega)
  unfold subRes at this
  rw [h1, h2, if_pos h] at this
  exact this
theorem ret_rquo {a b : ByteArray} {m n : Nat} (ha : a.size ≤ 1000) (hb : b.size ≤ 1000) (h1 : sval a = m) (h2 : sval b = n) (h : n ≠ 0) : Ret 70 #[.string a, .string b] (.tuple #[.string (natS (m / n)), .string (natS (m % n)), .bool true]) := fun W => by
  have := rQuo a b W (by omega) (by omega)
  unfold quoRes at this
  rw [h1, h2, if_neg h] at this
  exact this
theorem sval_unit : sval ⟨#[1]⟩ = 1 := by decide
theorem cmpI_one (n : Nat) : (cmpI n 1 == 0) = decide (n = 1) := by
  unfold cmpI
  by_cases h : n = 1
  · subst h; rfl
  · rw [decide_eq_false h]
    split
    · rfl
    · rfl

set_option maxRecDepth 100000 in
set_option maxHeartbeats 1000000 in
theorem rRight_q (g : Bool) (a b : ByteArray) (ha : a.size ≤ 1000) (hb : b.size ≤ 1000) : Ret 42 #[ratW g a b] (.bool (rRightB g a b)) := by
  intro w
  have hgs : (natS (Nat.gcd (sval a) (sval b))).size ≤ 1000 := natS_size (gcd_lt (sval_le ha) (sval_le hb))
  have m1 := Lib.hid (ret_rright ha)
  have m2 := Lib.hid (ret_rright hb)
  have m3 := Lib.hid ret_rone
  have m4 := Lib.hid (ret_rcmp (b := ⟨#[1]⟩) hb (by decide))
  have m5 := Lib.hid (ret_rgcd ha hb)
  have m6 := Lib.hid (ret_rcmp (b := ⟨#[1]⟩) hgs (by decide))
  rw [sval_unit] at m4 m6
  rw [sval_natS] at m6
  have HE : Hid (rRightB g a b = (rightB a && rightB b && decide (b.size ≠ 0) && !(decide (a.size = 0) && g) && decide (Nat.gcd (sval a) (sval b) = 1))) := Lib.hid rfl
  have HU := Lib.hid (cmpI_one (Nat.gcd (sval a) (sval b)))
  have HV : Hid (a.size = 0 → (cmpI (sval b) 1 == 0) = decide (Nat.gcd (sval a) (sval b) = 1)) := Lib.hid (fun e => by
    have : sval a = 0 := by have := sval_lt a; rw [e] at this; have h2 : P8 0 = 1 := rfl; omega
    rw [cmpI_one, this]; exact decide_eq_decide.2 (by rw [Nat.gcd_zero_left]))
  generalize decide (Nat.gcd (sval a) (sval b) = 1) = dd at *
  generalize natS (Nat.gcd (sval a) (sval b)) = c at *
  generalize cmpI (Nat.gcd (sval a) (sval b)) 1 = z at *
  generalize cmpI (sval b) 1 = z' at *
  clear hgs
  have hB := Below.refl w.heap.size w
  go_enter Tryz.func42, Tryz.ntmps42
  go_wp2_with fail
  refine (m1.out _).mono ?_
  rintro e w1 ⟨rfl, hb1⟩
  have hk := (Blk.new w _ _).belowK hb1
  replace hB := below_then (below_al hB _) hb1
  clear hb1
  obtain ⟨chk0, chk1, chk2⟩ := cells3 hk (Below.refl _ _)
  go_wp2_with fail
  refine (m2.out _).mono ?_
  rintro e w2 ⟨rfl, hb2⟩
  clear chk0 chk1 chk2
  replace hB := below_then hB hb2
  replace hk := hk.belowK hb2
  clear hb2
  obtain ⟨chk0, chk1, chk2⟩ := cells3 hk (Below.refl _ _)
  cases hra : rightB a
  · go_wp2_with fail
    go_ret
    exact ⟨by rw [HE.out, hra]; rfl, hB⟩
  · cases hrb : rightB b
    · go_wp2_with fail
      go_ret
      exact ⟨by rw [HE.out, hra, hrb]; rfl, hB⟩
    · by_cases hb0 : b.size = 0
      · have hbn := str_yes hb0
        go_wp2_with fail
        go_ret
        exact ⟨by rw [HE.out]; simp [hb0], hB⟩
      · have hbn := str_no hb0
        by_cases ha0 : a.size = 0
        · have han := str_yes ha0
          cases g
          · go_upto_region 6 with fail
            clear chk0 chk1 chk2
            go_region_held3 (fun W : World => (W.cell? ⟨w.heap.size, 0, none⟩ = some (.bool false) ∧ W.cell? ⟨w.heap.size, 1, none⟩ = some (.string a) ∧ W.cell? ⟨w.heap.size, 2, none⟩ = some (.string b)))
              ((refine cells3 hk ?_; (repeat (first | exact Below.refl _ _ | apply Below.drew | refine below_then ?_ hz0 | refine below_then ?_ hz1))))
              (first
                | (go_at_call 19; (with_reducible refine (m3.out _).mono ?_); rintro e v0 ⟨rfl, hz0⟩)
                | (go_at_call 51; (with_reducible refine (m4.out _).mono ?_); rintro e v1 ⟨rfl, hz1⟩))
            all_goals go_wp2_with fail
            all_goals go_ret
            all_goals
              refine ⟨by rw [HE.out, hra, hrb, ← HV.out ha0]; simp [hb0], ?_⟩
              refine below_then hB ?_
              (repeat (first | exact Below.refl _ _ | apply Below.drew | refine below_then ?_ hz0 | refine below_then ?_ hz1))
          · go_upto_region 6 with fail
            go_region
            all_goals go_wp2_with fail
            all_goals go_ret
            all_goals exact ⟨by rw [HE.out]; simp [ha0], hB.drew⟩
        · have han := str_no ha0
          go_wp2_with fail
          refine (m5.out _).mono ?_
          rintro e w3 ⟨rfl, hb3⟩
          replace hB := below_then hB hb3
          go_wp2_with fail
          refine (m3.out _).mono ?_
          rintro e w4 ⟨rfl, hb4⟩
          replace hB := below_then hB hb4
          go_wp2_with fail
          refine (m6.out _).mono ?_
          rintro e w5 ⟨rfl, hb5⟩
          replace hB := below_then hB hb5
          go_wp2_with fail
          go_ret
          exact ⟨by rw [HE.out, hra, hrb, ← HU.out]; simp [hb0, ha0], hB⟩

set_option maxHeartbeats 400000 in
theorem rvalue_q (g : Bool) (a b : ByteArray) (ha : a.size ≤ 1000) (hb : b.size ≤ 1000) : Ret 49 #[ratW g a b] (ratV (ratOf g a b)) := by
  intro w
  have m1 := Lib.hid (rRight_q g a b ha hb)
  have m2 := Lib.hid ret_rone
  have HY : Hid (rRightB g a b = true → ratV (ratOf g a b) = ratW g a b) := Lib.hid (fun h => ratV_of h)
  have HN : Hid (rRightB g a b = false → ratV (ratOf g a b) = ratW false ⟨#[]⟩ ⟨#[1]⟩) := Lib.hid (fun h => by unfold ratOf; rw [h]; rfl)
  have hB := Below.refl w.heap.size w
  have hka := Blk.new w 27 #[.bool g, .string a, .string b]
  go_enter Tryz.func49, Tryz.ntmps49
  go_wp2_with fail
  refine (m1.out _).mono ?_
  rintro e w1 ⟨rfl, hb1⟩
  have hkr := (Blk.new2 w (.cells #[.bool g, .string a, .string b] 27) 27 #[.bool false, .string ⟨#[]⟩, .string ⟨#[]⟩]).belowK hb1
  replace hka := (hka.alloc _).belowK hb1
  replace hB := below_then (below_al (below_al hB _) _) hb1
  clear hb1
  cases hr : rRightB g a b
  · go_wp2_with fail
    refine (m2.out _).mono ?_
    rintro e w2 ⟨rfl, hb2⟩
    replace hB := below_then hB hb2
    replace hkr := hkr.belowK hb2
    clear hb2
    obtain ⟨chkr0, chkr1, chkr2⟩ := cells3 hkr (Below.refl _ _)
    obtain ⟨fhkr0, fhkr1, fhkr2⟩ := free3 hkr (Below.refl _ _)
    go_wp2_with fail
    refine bodyPost_ret (results_rat rfl rfl (hkr.put3 _ _ _)) rfl ?_
    exact ⟨by rw [HN.out hr], below_put3 hB (by omega) _ _ _⟩
  · skip
    obtain ⟨chka0, chka1, chka2⟩ := cells3 hka (Below.refl _ _)
    obtain ⟨chkr0, chkr1, chkr2⟩ := cells3 hkr (Below.refl _ _)
    obtain ⟨fhkr0, fhkr1, fhkr2⟩ := free3 hkr (Below.refl _ _)
    go_wp2_with fail
    refine bodyPost_ret (results_rat rfl rfl (hkr.put3 _ _ _)) rfl ?_
    exact ⟨by rw [HY.out hr], below_put3 hB (by omega) _ _ _⟩

set_option maxHeartbeats 400000 in
/-- lowest, at a right numerator. -/
theorem rlowest_q (g : Bool) (a b : ByteArray) (ha : a.size ≤ 1000) (hb : b.size ≤ 1000) (hr : rightB a = true) (h0 : sval b ≠ 0) : Ret 46 #[.bool g, .string a, .string b] (ratV (mkRat (signed g (sval a)) (sval b))) := by
  intro w
  have hgp : Nat.gcd (sval a) (sval b) ≠ 0 := Nat.ne_of_gt (Nat.gcd_pos_of_pos_right _ (by omega))
  have hgs : (natS (Nat.gcd (sval a) (sval b))).size ≤ 1000 := natS_size (gcd_lt (sval_le ha) (sval_le hb))
  have m1 := Lib.hid (ret_rgcd ha hb)
  have m2 := Lib.hid (ret_rquo ha hgs rfl (sval_natS _) hgp)
  have m3 := Lib.hid (ret_rquo hb hgs rfl (sval_natS _) hgp)
  have m4 := Lib.hid ret_rone
  have hB := Below.refl w.heap.size w
  by_cases ha0 : a.size = 0
  · have han := str_yes ha0
    have HZ : Hid (ratV (mkRat (signed g (sval a)) (sval b)) = ratW false ⟨#[]⟩ ⟨#[1]⟩) := Lib.hid (by
      rw [(size_pos_sval hr).1 ha0, signed_zero, Rat.zero_mkRat]; rfl)
    rw [HZ.out]
    clear m1 m2 m3 hgp hgs h0 hr HZ
    go_enter Tryz.func46, Tryz.ntmps46
    go_wp2_with fail
    refine (m4.out _).mono ?_
    rintro e w1 ⟨rfl, hb1⟩
    have hkr := (Blk.new w _ _).belowK hb1
    replace hB := below_then (below_al hB _) hb1
    clear hb1
    obtain ⟨chkr0, chkr1, chkr2⟩ := cells3 hkr (Below.refl _ _)
    obtain ⟨fhkr0, fhkr1, fhkr2⟩ := free3 hkr (Below.refl _ _)
    go_wp2_with fail
    refine bodyPost_ret (results_rat rfl rfl (hkr.put3 _ _ _)) rfl ?_
    exact ⟨rfl, below_put3 hB (by omega) _ _ _⟩
  · have han := str_no ha0
    have HR : Hid (ratV (mkRat (signed g (sval a)) (sval b)) = ratW g (natS (sval a / Nat.gcd (sval a) (sval b))) (natS (sval b / Nat.gcd (sval a) (sval b)))) := Lib.hid (by
      rw [ratV_mk g h0]
      have : sval a ≠ 0 := fun e => ha0 ((size_pos_sval hr).2 e)
      simp [this])
    rw [HR.out]
    clear hgp hgs h0 hr HR
    generalize natS (sval a / Nat.gcd (sval a) (sval b)) = q at *
    generalize natS (sval b / Nat.gcd (sval a) (sval b)) = r at *
    generalize natS (sval a % Nat.gcd (sval a) (sval b)) = p at *
    generalize natS (sval b % Nat.gcd (sval a) (sval b)) = o at *
    generalize natS (Nat.gcd (sval a) (sval b)) = c at *
    go_enter Tryz.func46, Tryz.ntmps46
    go_wp2_with fail
    refine (m1.out _).mono ?_
    rintro e w1 ⟨rfl, hb1⟩
    have hkr := (Blk.new w _ _).belowK hb1
    replace hB := below_then (below_al hB _) hb1
    clear hb1
    go_wp2_with fail
    refine (m2.out _).mono ?_
    rintro e w2 ⟨rfl, hb2⟩
    replace hB := below_then hB hb2
    replace hkr := hkr.belowK hb2
    clear hb2
    go_wp2_with fail
    refine (m3.out _).mono ?_
    rintro e w3 ⟨rfl, hb3⟩
    replace hB := below_then hB hb3
    replace hkr := hkr.belowK hb3
    clear hb3
    obtain ⟨chkr0, chkr1, chkr2⟩ := cells3 hkr (Below.refl _ _)
    obtain ⟨fhkr0, fhkr1, fhkr2⟩ := free3 hkr (Below.refl _ _)
    go_wp2_with fail
    refine bodyPost_ret (results_rat rfl rfl (hkr.put3 _ _ _)) rfl ?_
    exact ⟨rfl, below_put3 hB (by omega) _ _ _⟩

end Go.Proofs.YtikdkhmeaoafmaaGreatDoor
