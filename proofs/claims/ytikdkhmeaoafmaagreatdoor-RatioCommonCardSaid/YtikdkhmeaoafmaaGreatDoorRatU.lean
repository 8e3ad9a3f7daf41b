/- Of and Make of ratio and of its reference; Mod; frac. -/
import Derived.Test.YtikdkhmeaoafmaaGreatDoorRatT
namespace Go.Proofs.YtikdkhmeaoafmaaGreatDoor
open Go.RowKit

/-- What Make returns. -/
def makeQ (g : Bool) (a b : ByteArray) : Value := if rightB a = true ∧ rightB b = true ∧ b.size ≠ 0 then .tuple #[ratV (mkRat (signed g (sval a)) (sval b)), .bool true] else .tuple #[rat0, .bool false]

theorem ratV_int (n : Int) : ratV (n : Rat) = ratW (decide (n < 0)) (natS n.natAbs) ⟨#[1]⟩ := rfl
theorem ret_of {n : Int} (h : n ≤ 9223372036854775807) : Ret 61 #[.int .i64 n] (.string (natS n.toNat)) := fun W => Of_any n W h

set_option maxHeartbeats 400000 in
theorem Of_q (n : Int) (h1 : -9223372036854775808 ≤ n) (h2 : n ≤ 9223372036854775807) : Ret 20 #[.int .i64 n] (ratV (n : Rat)) := by
  intro w
  rw [ratV_int]
  have hB := Below.refl w.heap.size w
  rcases Int.lt_or_le n 0 with hn | hn
  · have hs : (natS (-(n + 1)).toNat).size ≤ 1000 := natS_sz (k := 8) (by have e : P8 8 = 18446744073709551616 := rfl; omega) (by omega)
    have m1 := Lib.hid (ret_of (n := -(n + 1)) (by omega))
    have m2 : Hid (Ret 60 #[.string (natS (-(n + 1)).toNat), .string ⟨#[1]⟩] (.string (natS n.natAbs))) := Lib.hid (by
      have := ret_add hs (b := ⟨#[1]⟩) (by decide) rfl
      rw [sval_natS, sval_unit, show (-(n + 1)).toNat + 1 = n.natAbs by omega] at this
      exact this)
    rw [decide_eq_true hn]
    clear hs
    generalize natS (-(n + 1)).toNat = t at *
    generalize natS n.natAbs = t' at *
    go_enter Tryz.func20, Tryz.ntmps20
    go_wp2_with fail
    refine (m1.out _).mono ?_
    rintro e y0 ⟨rfl, hq0⟩
    have hkr := (Blk.new w _ _).belowK hq0
    replace hB := below_then (below_al hB _) hq0
    clear hq0
    go_wp2_with fail
    refine (m2.out _).mono ?_
    rintro e y1 ⟨rfl, hq1⟩
    replace hB := below_then hB hq1
    replace hkr := hkr.belowK hq1
    clear hq1
    obtain ⟨chkr0, chkr1, chkr2⟩ := cells3 hkr (Below.refl _ _)
    obtain ⟨fhkr0, fhkr1, fhkr2⟩ := free3 hkr (Below.refl _ _)
    go_wp2_with fail
    refine bodyPost_ret (results_rat rfl rfl (hkr.put3 _ _ _)) rfl ?_
    exact ⟨rfl, below_put3 hB (by omega) _ _ _⟩
  · have m1 := Lib.hid (ret_of (n := n) (by omega))
    rw [decide_eq_false (by omega)]
    rw [show n.toNat = n.natAbs by omega] at m1
    generalize natS n.natAbs = t' at *
    go_enter Tryz.func20, Tryz.ntmps20
    go_wp2_with fail
    refine (m1.out _).mono ?_
    rintro e y0 ⟨rfl, hq0⟩
    have hkr := (Blk.new w _ _).belowK hq0
    replace hB := below_then (below_al hB _) hq0
    clear hq0
    obtain ⟨chkr0, chkr1, chkr2⟩ := cells3 hkr (Below.refl _ _)
    obtain ⟨fhkr0, fhkr1, fhkr2⟩ := free3 hkr (Below.refl _ _)
    go_wp2_with fail
    refine bodyPost_ret (results_rat rfl rfl (hkr.put3 _ _ _)) rfl ?_
    exact ⟨rfl, below_put3 hB (by omega) _ _ _⟩

set_option maxHeartbeats 400000 in
theorem rOf_q (n : Int) (h1 : -9223372036854775808 ≤ n) (h2 : n ≤ 9223372036854775807) : Ret 21 #[.int .i64 n] (ratV (n : Rat)) := by
  intro w
  rw [ratV_int]
  have hB := Below.refl w.heap.size w
  have m4 := Lib.hid ret_rone
  rcases Int.lt_or_le n 0 with hn | hn
  · have hs : (natS (-(n + 1)).toNat).size ≤ 1000 := natS_sz (k := 8) (by have e : P8 8 = 18446744073709551616 := rfl; omega) (by omega)
    have m1 := Lib.hid (ret_rof (n := -(n + 1)) (by omega))
    have m2 : Hid (Ret 62 #[.string (natS (-(n + 1)).toNat), .string ⟨#[1]⟩] (.string (natS n.natAbs))) := Lib.hid (by
      have := ret_radd hs (b := ⟨#[1]⟩) (by decide)
      rw [sval_natS, sval_unit, show (-(n + 1)).toNat + 1 = n.natAbs by omega] at this
      exact this)
    rw [decide_eq_true hn]
    clear hs
    generalize natS (-(n + 1)).toNat = t at *
    generalize natS n.natAbs = t' at *
    go_enter Tryz.func21, Tryz.ntmps21
    go_wp2_with fail
    refine (m1.out _).mono ?_
    rintro e y0 ⟨rfl, hq0⟩
    have hkr := (Blk.new w _ _).belowK hq0
    replace hB := below_then (below_al hB _) hq0
    clear hq0
    go_wp2_with fail
    refine (m4.out _).mono ?_
    rintro e y1 ⟨rfl, hq1⟩
    replace hB := below_then hB hq1
    replace hkr := hkr.belowK hq1
    clear hq1
    go_wp2_with fail
    refine (m2.out _).mono ?_
    rintro e y2 ⟨rfl, hq2⟩
    replace hB := below_then hB hq2
    replace hkr := hkr.belowK hq2
    clear hq2
    go_wp2_with fail
    refine (m4.out _).mono ?_
    rintro e y3 ⟨rfl, hq3⟩
    replace hB := below_then hB hq3
    replace hkr := hkr.belowK hq3
    clear hq3
    obtain ⟨chkr0, chkr1, chkr2⟩ := cells3 hkr (Below.refl _ _)
    obtain ⟨fhkr0, fhkr1, fhkr2⟩ := free3 hkr (Below.refl _ _)
    go_wp2_with fail
    refine bodyPost_ret (results_rat rfl rfl (hkr.put3 _ _ _)) rfl ?_
    exact ⟨rfl, below_put3 hB (by omega) _ _ _⟩
  · have m1 := Lib.hid (ret_rof (n := n) (by omega))
    rw [decide_eq_false (by omega)]
    rw [show n.toNat = n.natAbs by omega] at m1
    generalize natS n.natAbs = t' at *
    go_enter Tryz.func21, Tryz.ntmps21
    go_wp2_with fail
    refine (m1.out _).mono ?_
    rintro e y0 ⟨rfl, hq0⟩
    have hkr := (Blk.new w _ _).belowK hq0
    replace hB := below_then (below_al hB _) hq0
    clear hq0
    go_wp2_with fail
    refine (m4.out _).mono ?_
    rintro e y1 ⟨rfl, hq1⟩
    replace hB := below_then hB hq1
    replace hkr := hkr.belowK hq1
    clear hq1
    obtain ⟨chkr0, chkr1, chkr2⟩ := cells3 hkr (Below.refl _ _)
    obtain ⟨fhkr0, fhkr1, fhkr2⟩ := free3 hkr (Below.refl _ _)
    go_wp2_with fail
    refine bodyPost_ret (results_rat rfl rfl (hkr.put3 _ _ _)) rfl ?_
    exact ⟨rfl, below_put3 hB (by omega) _ _ _⟩

set_option maxHeartbeats 400000 in
theorem Make_q (g : Bool) (a b : ByteArray) (ha : a.size ≤ 1000) (hb : b.size ≤ 1000) (hs : Sm 1000 (mkRat (signed g (sval a)) (sval b))) : Ret 17 #[.bool g, .string a, .string b] (makeQ g a b) := by
  intro w
  have m1 := Lib.hid (ret_right ha rfl)
  have m2 := Lib.hid (ret_right hb rfl)
  have HN : Hid (¬ (rightB a = true ∧ rightB b = true ∧ b.size ≠ 0) → makeQ g a b = .tuple #[rat0, .bool false]) := Lib.hid (fun h => if_neg h)
  have HY : Hid (rightB a = true ∧ rightB b = true ∧ b.size ≠ 0 → ∃ (rg : Bool) (ra rb : ByteArray), makeQ g a b = .tuple #[ratW rg ra rb, .bool true] ∧ Ret 57 #[.bool g, .string a, .string b] (ratW rg ra rb)) := Lib.hid (fun h => by
    obtain ⟨rg, ra, rb, er, -⟩ := words hs
    refine ⟨rg, ra, rb, (if_pos h).trans (by rw [er]), ?_⟩
    have h0 : sval b ≠ 0 := fun e => h.2.2 ((size_pos_sval h.2.1).2 e)
    have hra := h.1
    exact er ▸ ret_reduce ha hb h0 rfl)
  generalize makeQ g a b = res at *
  clear hs
  have hB := Below.refl w.heap.size w
  go_enter Tryz.func17, Tryz.ntmps17
  go_wp2_with fail
  refine (m1.out _).mono ?_
  rintro e w1 ⟨rfl, hb1⟩
  have hkr := (Blk.new w _ _).belowK hb1
  replace hB := below_then (below_al hB _) hb1
  clear hb1
  cases hra : rightB a
  · skip
    obtain ⟨chkr0, chkr1, chkr2⟩ := cells3 hkr (Below.refl _ _)
    obtain ⟨fhkr0, fhkr1, fhkr2⟩ := free3 hkr (Below.refl _ _)
    go_wp2_with fail
    refine bodyPost_ret (results_rat2 rfl rfl (hkr.put3 _ _ _) rfl) rfl ?_
    exact ⟨by rw [HN.out (by rw [hra]; simp)]; rfl, below_put3 hB (by omega) _ _ _⟩
  · skip
    go_wp2_with fail
    refine (m2.out _).mono ?_
    rintro e w2 ⟨rfl, hb2⟩
    replace hB := below_then hB hb2
    replace hkr := hkr.belowK hb2
    clear hb2
    cases hrb : rightB b
    · skip
      obtain ⟨chkr0, chkr1, chkr2⟩ := cells3 hkr (Below.refl _ _)
      obtain ⟨fhkr0, fhkr1, fhkr2⟩ := free3 hkr (Below.refl _ _)
      go_wp2_with fail
      refine bodyPost_ret (results_rat2 rfl rfl (hkr.put3 _ _ _) rfl) rfl ?_
      exact ⟨by rw [HN.out (by rw [hrb]; simp)]; rfl, below_put3 hB (by omega) _ _ _⟩
    · by_cases hb0 : b.size = 0
      · have hbn := str_yes hb0
        obtain ⟨chkr0, chkr1, chkr2⟩ := cells3 hkr (Below.refl _ _)
        obtain ⟨fhkr0, fhkr1, fhkr2⟩ := free3 hkr (Below.refl _ _)
        go_wp2_with fail
        refine bodyPost_ret (results_rat2 rfl rfl (hkr.put3 _ _ _) rfl) rfl ?_
        exact ⟨by rw [HN.out (by simp [hb0])]; rfl, below_put3 hB (by omega) _ _ _⟩
      · have hbn := str_no hb0
        obtain ⟨rg, ra, rb, rfl, q3⟩ := HY.out ⟨hra, hrb, hb0⟩
        have m3 := Lib.hid q3
        clear q3
        go_wp2_with fail
        refine (m3.out _).mono ?_
        rintro e w3 ⟨rfl, hb3⟩
        replace hB := below_then hB hb3
        replace hkr := hkr.belowK hb3
        clear hb3
        obtain ⟨chkr0, chkr1, chkr2⟩ := cells3 hkr (Below.refl _ _)
        obtain ⟨fhkr0, fhkr1, fhkr2⟩ := free3 hkr (Below.refl _ _)
        go_wp2_with fail
        refine bodyPost_ret (results_rat2 rfl rfl (hkr.put3 _ _ _) rfl) rfl ?_
        exact ⟨rfl, below_put3 hB (by omega) _ _ _⟩

set_option maxHeartbeats 400000 in
theorem rMake_q (g : Bool) (a b : ByteArray) (ha : a.size ≤ 1000) (hb : b.size ≤ 1000) (hs : Sm 1000 (mkRat (signed g (sval a)) (sval b))) : Ret 18 #[.bool g, .string a, .string b] (makeQ g a b) := by
  intro w
  have m1 := Lib.hid (ret_rright ha)
  have m2 := Lib.hid (ret_rright hb)
  have HN : Hid (¬ (rightB a = true ∧ rightB b = true ∧ b.size ≠ 0) → makeQ g a b = .tuple #[rat0, .bool false]) := Lib.hid (fun h => if_neg h)
  have HY : Hid (rightB a = true ∧ rightB b = true ∧ b.size ≠ 0 → ∃ (rg : Bool) (ra rb : ByteArray), makeQ g a b = .tuple #[ratW rg ra rb, .bool true] ∧ Ret 46 #[.bool g, .string a, .string b] (ratW rg ra rb)) := Lib.hid (fun h => by
    obtain ⟨rg, ra, rb, er, -⟩ := words hs
    refine ⟨rg, ra, rb, (if_pos h).trans (by rw [er]), ?_⟩
    have h0 : sval b ≠ 0 := fun e => h.2.2 ((size_pos_sval h.2.1).2 e)
    have hra := h.1
    exact er ▸ ret_rlowest ha hb hra h0 rfl)
  generalize makeQ g a b = res at *
  clear hs
  have hB := Below.refl w.heap.size w
  go_enter Tryz.func18, Tryz.ntmps18
  go_wp2_with fail
  refine (m1.out _).mono ?_
  rintro e w1 ⟨rfl, hb1⟩
  have hkr := (Blk.new w _ _).belowK hb1
  replace hB := below_then (below_al hB _) hb1
  clear hb1
  go_wp2_with fail
  refine (m2.out _).mono ?_
  rintro e w2 ⟨rfl, hb2⟩
  replace hB := below_then hB hb2
  replace hkr := hkr.belowK hb2
  clear hb2
  cases hra : rightB a
  · skip
    obtain ⟨chkr0, chkr1, chkr2⟩ := cells3 hkr (Below.refl _ _)
    obtain ⟨fhkr0, fhkr1, fhkr2⟩ := free3 hkr (Below.refl _ _)
    go_wp2_with fail
    refine bodyPost_ret (results_rat2 rfl rfl (hkr.put3 _ _ _) rfl) rfl ?_
    exact ⟨by rw [HN.out (by rw [hra]; simp)]; rfl, below_put3 hB (by omega) _ _ _⟩
  · skip
    cases hrb : rightB b
    · skip
      obtain ⟨chkr0, chkr1, chkr2⟩ := cells3 hkr (Below.refl _ _)
      obtain ⟨fhkr0, fhkr1, fhkr2⟩ := free3 hkr (Below.refl _ _)
      go_wp2_with fail
      refine bodyPost_ret (results_rat2 rfl rfl (hkr.put3 _ _ _) rfl) rfl ?_
      exact ⟨by rw [HN.out (by rw [hrb]; simp)]; rfl, below_put3 hB (by omega) _ _ _⟩
    · by_cases hb0 : b.size = 0
      · have hbn := str_yes hb0
        obtain ⟨chkr0, chkr1, chkr2⟩ := cells3 hkr (Below.refl _ _)
        obtain ⟨fhkr0, fhkr1, fhkr2⟩ := free3 hkr (Below.refl _ _)
        go_wp2_with fail
        refine bodyPost_ret (results_rat2 rfl rfl (hkr.put3 _ _ _) rfl) rfl ?_
        exact ⟨by rw [HN.out (by simp [hb0])]; rfl, below_put3 hB (by omega) _ _ _⟩
      · have hbn := str_no hb0
        obtain ⟨rg, ra, rb, rfl, q3⟩ := HY.out ⟨hra, hrb, hb0⟩
        have m3 := Lib.hid q3
        clear q3
        go_wp2_with fail
        refine (m3.out _).mono ?_
        rintro e w3 ⟨rfl, hb3⟩
        replace hB := below_then hB hb3
        replace hkr := hkr.belowK hb3
        clear hb3
        obtain ⟨chkr0, chkr1, chkr2⟩ := cells3 hkr (Below.refl _ _)
        obtain ⟨fhkr0, fhkr1, fhkr2⟩ := free3 hkr (Below.refl _ _)
        go_wp2_with fail
        refine bodyPost_ret (results_rat2 rfl rfl (hkr.put3 _ _ _) rfl) rfl ?_
        exact ⟨rfl, below_put3 hB (by omega) _ _ _⟩

set_option maxHeartbeats 400000 in
theorem Mod_q (n m : Int) (h3 : 0 < m) (h4 : m ≤ 4611686018427387904) : Ret 15 #[.int .i64 n, .int .i64 m] (.int .i64 (n % m)) := by
  intro w
  have hm0 : ¬ m = 0 := by omega
  have hr := Int.emod_nonneg n hm0
  have hl := Int.emod_lt_of_pos n h3
  have ht : n.tmod m = n % m ∨ (n.tmod m = n % m - m ∧ n.tmod m < 0) := by
    rw [Int.tmod_eq_emod]
    split
    · left; omega
    · right
      rename_i hh
      have hz : n % m ≠ 0 := fun e => hh (.inr (Int.dvd_of_emod_eq_zero e))
      rw [Int.natAbs_of_nonneg (by omega)]
      omega
  generalize n % m = r at *
  generalize htm : n.tmod m = t at *
  have hb0 : (m == 0) = false := by rw [beq_eq_false_iff_ne]; omega
  have hw : IntKind.i64.wrap t = t := IntWalk.i64_in _ (by omega)
  rcases ht with rfl | ⟨ht, hneg⟩
  · go_enter Tryz.func15, Tryz.ntmps15
    go_wp2_with fail
    go_ret
    exact ⟨rfl, Below.refl _ _⟩
  · have hs : IntKind.i64.wrap (t + m) = t + m := IntWalk.i64_in _ (by omega)
    obtain rfl : r = t + m := by omega
    clear ht
    go_enter Tryz.func15, Tryz.ntmps15
    go_wp2_with fail
    go_ret
    exact ⟨rfl, Below.refl _ _⟩

end Go.Proofs.YtikdkhmeaoafmaaGreatDoor
