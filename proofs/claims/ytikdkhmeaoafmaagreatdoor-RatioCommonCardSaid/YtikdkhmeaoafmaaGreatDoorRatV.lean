/- Numbers that three numbers determine (Made), and fractions of ints (frac). -/
import Derived.Test.YtikdkhmeaoafmaaGreatDoorRatU
namespace Go.Proofs.YtikdkhmeaoafmaaGreatDoor
open Go.RowKit

/-- Of, with the string named. -/
theorem of_str {n : Int} (h0 : 0 ≤ n) (h : n ≤ 9223372036854775807) : ∃ a : ByteArray, Ret 19 #[.int .i64 n] (.string a) ∧ rightB a = true ∧ (sval a : Int) = n ∧ a.size ≤ 8 :=
  ⟨natS n.toNat, ret_rof h, right_natS _, by rw [sval_natS]; omega, natS_size (by have e : P8 8 = 18446744073709551616 := rfl; omega)⟩
theorem mod_int (n : Int) {m : Int} (h3 : 0 < m) (h4 : m ≤ 4611686018427387904) : ∃ r : Int, Ret 15 #[.int .i64 n, .int .i64 m] (.int .i64 r) ∧ 0 ≤ r ∧ r < m :=
  ⟨_, Mod_q n m h3 h4, Int.emod_nonneg n (by omega), Int.emod_lt_of_pos n h3⟩
theorem low_str (g : Bool) {a b : ByteArray} (ha : a.size ≤ 16) (hb : b.size ≤ 16) (hr : rightB a = true) (h0 : sval b ≠ 0) : ∃ (x : Rat) (rg : Bool) (ra rb : ByteArray), Sm 20 x ∧ ratV x = ratW rg ra rb ∧ Ret 46 #[.bool g, .string a, .string b] (ratW rg ra rb) := by
  have hs : Sm 20 (mkRat (signed g (sval a)) (sval b)) := sm_mk _ (P8_up (sval_lt a) (by omega)) (P8_up (sval_lt b) (by omega)) h0
  obtain ⟨rg, ra, rb, er, -⟩ := words hs
  exact ⟨_, rg, ra, rb, hs, er, er ▸ ret_rlowest (by omega) (by omega) hr h0 rfl⟩
theorem mul_str {a b : ByteArray} (ha : a.size ≤ 8) (hb : b.size ≤ 8) : ∃ c : ByteArray, Ret 45 #[.string a, .string b] (.string c) ∧ rightB c = true ∧ sval c = sval a * sval b ∧ c.size ≤ 16 :=
  ⟨_, ret_rmul (by omega) (by omega), right_natS _, sval_natS _, natS_size (P8_mul_lt (sval_le ha) (sval_le hb))⟩

/-- Three ints as a parameter, and a place for the result. -/
theorem new_made (w : World) (q0 q1 q2 : Int) : ∃ W0 : World, (w.alloc (.cells #[.int .i64 q0, .int .i64 q1, .int .i64 q2] 22)).alloc (.cells #[.bool false, .string ⟨#[]⟩, .string ⟨#[]⟩] 27) = W0 ∧
    Blk W0 w.heap.size 22 #[.int .i64 q0, .int .i64 q1, .int .i64 q2] ∧ R3 W0 (w.heap.size + 1) false ⟨#[]⟩ ⟨#[]⟩ ∧ Below w.heap.size w W0 :=
  ⟨_, rfl, (Blk.new _ _ _).alloc _, Blk.new2 _ _ _ _, below_al (below_al (Below.refl _ _) _) _⟩

set_option maxRecDepth 100000 in
set_option maxHeartbeats 2000000 in
theorem Made_q (q0 q1 q2 : Int) : ∃ (x : Rat) (rg : Bool) (ra rb : ByteArray), Sm 20 x ∧ ratV x = ratW rg ra rb ∧ Ret 11 #[.agg #[.int .i64 q0, .int .i64 q1, .int .i64 q2]] (ratW rg ra rb) := by
  obtain ⟨r0, p0, l0, u0⟩ := mod_int q0 (m := 1000) (by omega) (by omega)
  obtain ⟨r1, p1, l1, u1⟩ := mod_int q1 (m := 60) (by omega) (by omega)
  obtain ⟨r2, p2, l2, u2⟩ := mod_int q2 (m := 4) (by omega) (by omega)
  obtain ⟨a0, pa0, ra0, va0, sa0⟩ := of_str l0 (by omega)
  obtain ⟨b0, pb0, rb0, vb0, sb0⟩ := of_str (n := 1 + r1) (by omega) (by omega)
  have m0 := Lib.hid p0
  have m1 := Lib.hid p1
  have m2 := Lib.hid p2
  have n0 := Lib.hid pa0
  have n1 := Lib.hid pb0
  clear p0 p1 p2 pa0 pb0
  rcases (show r2 = 0 ∨ r2 = 1 ∨ r2 = 2 ∨ r2 = 3 by omega) with rfl | rfl | rfl | rfl
  · skip
    obtain ⟨x, rg, ra, rb, hx, er, pl⟩ := low_str (decide (q0 < 0)) (a := a0) (b := b0) (by omega) (by omega) ra0 (by omega)
    refine ⟨x, rg, ra, rb, hx, er, fun w => ?_⟩
    have lo := Lib.hid pl
    clear pl er hx
    go_enter Tryz.func11, Tryz.ntmps11
    go_upto_region 1 with fail
    obtain ⟨W0, hW0, hkq, hkr, hB⟩ := new_made w q0 q1 q2
    rw [hW0]
    clear hW0
    obtain ⟨chkq0, chkq1, chkq2⟩ := cells3 hkq (Below.refl _ _)
    go_wp2_with fail
    refine (m0.out _).mono ?_
    rintro e y0 ⟨rfl, hq0⟩
    clear chkq0 chkq1 chkq2
    replace hB := below_then hB hq0
    replace hkq := hkq.belowK hq0
    replace hkr := hkr.belowK hq0
    clear hq0
    obtain ⟨chkq0, chkq1, chkq2⟩ := cells3 hkq (Below.refl _ _)
    go_wp2_with fail
    refine (n0.out _).mono ?_
    rintro e y1 ⟨rfl, hq1⟩
    clear chkq0 chkq1 chkq2
    replace hB := below_then hB hq1
    replace hkq := hkq.belowK hq1
    replace hkr := hkr.belowK hq1
    clear hq1
    obtain ⟨chkq0, chkq1, chkq2⟩ := cells3 hkq (Below.refl _ _)
    go_wp2_with fail
    refine (m1.out _).mono ?_
    rintro e y2 ⟨rfl, hq2⟩
    clear chkq0 chkq1 chkq2
    replace hB := below_then hB hq2
    replace hkq := hkq.belowK hq2
    replace hkr := hkr.belowK hq2
    clear hq2
    obtain ⟨chkq0, chkq1, chkq2⟩ := cells3 hkq (Below.refl _ _)
    go_wp2_with fail
    refine (n1.out _).mono ?_
    rintro e y3 ⟨rfl, hq3⟩
    clear chkq0 chkq1 chkq2
    replace hB := below_then hB hq3
    replace hkq := hkq.belowK hq3
    replace hkr := hkr.belowK hq3
    clear hq3
    obtain ⟨chkq0, chkq1, chkq2⟩ := cells3 hkq (Below.refl _ _)
    go_wp2_with fail
    refine (m2.out _).mono ?_
    rintro e y4 ⟨rfl, hq4⟩
    clear chkq0 chkq1 chkq2
    replace hB := below_then hB hq4
    replace hkq := hkq.belowK hq4
    replace hkr := hkr.belowK hq4
    clear hq4
    obtain ⟨chkq0, chkq1, chkq2⟩ := cells3 hkq (Below.refl _ _)
    go_wp2_with fail
    refine (lo.out _).mono ?_
    rintro e yy ⟨rfl, hqq⟩
    clear chkq0 chkq1 chkq2
    replace hB := below_then hB hqq
    replace hkr := hkr.belowK hqq
    clear hqq
    obtain ⟨chkr0, chkr1, chkr2⟩ := cells3 hkr (Below.refl _ _)
    obtain ⟨fhkr0, fhkr1, fhkr2⟩ := free3 hkr (Below.refl _ _)
    go_wp2_with fail
    refine bodyPost_ret (results_rat rfl rfl (hkr.put3 _ _ _)) rfl ?_
    exact ⟨rfl, below_put3 hB (by omega) _ _ _⟩
  · obtain ⟨r3, p3, l3, u3⟩ := mod_int q0 (m := 4611686018427387904) (by omega) (by omega)
    obtain ⟨r4, p4, l4, u4⟩ := mod_int q1 (m := 4611686018427387904) (by omega) (by omega)
    obtain ⟨a3, pa3, ra3, va3, sa3⟩ := of_str l3 (by omega)
    obtain ⟨b4, pb4, rb4, vb4, sb4⟩ := of_str (n := 1 + r4) (by omega) (by omega)
    have m3 := Lib.hid p3
    have m4 := Lib.hid p4
    have n3 := Lib.hid pa3
    have n4 := Lib.hid pb4
    clear p3 p4 pa3 pb4
    obtain ⟨x, rg, ra, rb, hx, er, pl⟩ := low_str (decide (q0 < 0)) (a := a3) (b := b4) (by omega) (by omega) ra3 (by omega)
    refine ⟨x, rg, ra, rb, hx, er, fun w => ?_⟩
    have lo := Lib.hid pl
    clear pl er hx
    go_enter Tryz.func11, Tryz.ntmps11
    go_upto_region 1 with fail
    obtain ⟨W0, hW0, hkq, hkr, hB⟩ := new_made w q0 q1 q2
    rw [hW0]
    clear hW0
    obtain ⟨chkq0, chkq1, chkq2⟩ := cells3 hkq (Below.refl _ _)
    go_wp2_with fail
    refine (m0.out _).mono ?_
    rintro e y0 ⟨rfl, hq0⟩
    clear chkq0 chkq1 chkq2
    replace hB := below_then hB hq0
    replace hkq := hkq.belowK hq0
    replace hkr := hkr.belowK hq0
    clear hq0
    obtain ⟨chkq0, chkq1, chkq2⟩ := cells3 hkq (Below.refl _ _)
    go_wp2_with fail
    refine (n0.out _).mono ?_
    rintro e y1 ⟨rfl, hq1⟩
    clear chkq0 chkq1 chkq2
    replace hB := below_then hB hq1
    replace hkq := hkq.belowK hq1
    replace hkr := hkr.belowK hq1
    clear hq1
    obtain ⟨chkq0, chkq1, chkq2⟩ := cells3 hkq (Below.refl _ _)
    go_wp2_with fail
    refine (m1.out _).mono ?_
    rintro e y2 ⟨rfl, hq2⟩
    clear chkq0 chkq1 chkq2
    replace hB := below_then hB hq2
    replace hkq := hkq.belowK hq2
    replace hkr := hkr.belowK hq2
    clear hq2
    obtain ⟨chkq0, chkq1, chkq2⟩ := cells3 hkq (Below.refl _ _)
    go_wp2_with fail
    refine (n1.out _).mono ?_
    rintro e y3 ⟨rfl, hq3⟩
    clear chkq0 chkq1 chkq2
    replace hB := below_then hB hq3
    replace hkq := hkq.belowK hq3
    replace hkr := hkr.belowK hq3
    clear hq3
    obtain ⟨chkq0, chkq1, chkq2⟩ := cells3 hkq (Below.refl _ _)
    go_wp2_with fail
    refine (m2.out _).mono ?_
    rintro e y4 ⟨rfl, hq4⟩
    clear chkq0 chkq1 chkq2
    replace hB := below_then hB hq4
    replace hkq := hkq.belowK hq4
    replace hkr := hkr.belowK hq4
    clear hq4
    obtain ⟨chkq0, chkq1, chkq2⟩ := cells3 hkq (Below.refl _ _)
    go_wp2_with fail
    refine (m3.out _).mono ?_
    rintro e y5 ⟨rfl, hq5⟩
    clear chkq0 chkq1 chkq2
    replace hB := below_then hB hq5
    replace hkq := hkq.belowK hq5
    replace hkr := hkr.belowK hq5
    clear hq5
    obtain ⟨chkq0, chkq1, chkq2⟩ := cells3 hkq (Below.refl _ _)
    go_wp2_with fail
    refine (n3.out _).mono ?_
    rintro e y6 ⟨rfl, hq6⟩
    clear chkq0 chkq1 chkq2
    replace hB := below_then hB hq6
    replace hkq := hkq.belowK hq6
    replace hkr := hkr.belowK hq6
    clear hq6
    obtain ⟨chkq0, chkq1, chkq2⟩ := cells3 hkq (Below.refl _ _)
    go_wp2_with fail
    refine (m4.out _).mono ?_
    rintro e y7 ⟨rfl, hq7⟩
    clear chkq0 chkq1 chkq2
    replace hB := below_then hB hq7
    replace hkq := hkq.belowK hq7
    replace hkr := hkr.belowK hq7
    clear hq7
    obtain ⟨chkq0, chkq1, chkq2⟩ := cells3 hkq (Below.refl _ _)
    go_wp2_with fail
    refine (n4.out _).mono ?_
    rintro e y8 ⟨rfl, hq8⟩
    clear chkq0 chkq1 chkq2
    replace hB := below_then hB hq8
    replace hkq := hkq.belowK hq8
    replace hkr := hkr.belowK hq8
    clear hq8
    obtain ⟨chkq0, chkq1, chkq2⟩ := cells3 hkq (Below.refl _ _)
    go_wp2_with fail
    refine (lo.out _).mono ?_
    rintro e yy ⟨rfl, hqq⟩
    clear chkq0 chkq1 chkq2
    replace hB := below_then hB hqq
    replace hkr := hkr.belowK hqq
    clear hqq
    obtain ⟨chkr0, chkr1, chkr2⟩ := cells3 hkr (Below.refl _ _)
    obtain ⟨fhkr0, fhkr1, fhkr2⟩ := free3 hkr (Below.refl _ _)
    go_wp2_with fail
    refine bodyPost_ret (results_rat rfl rfl (hkr.put3 _ _ _)) rfl ?_
    exact ⟨rfl, below_put3 hB (by omega) _ _ _⟩
  · obtain ⟨r3, p3, l3, u3⟩ := mod_int q0 (m := 4611686018427387904) (by omega) (by omega)
    obtain ⟨r4, p4, l4, u4⟩ := mod_int q1 (m := 4611686018427387904) (by omega) (by omega)
    obtain ⟨r5, p5, l5, u5⟩ := mod_int q0 (m := 2147483648) (by omega) (by omega)
    obtain ⟨a3, pa3, ra3, va3, sa3⟩ := of_str l3 (by omega)
    obtain ⟨a4, pa4, ra4, va4, sa4⟩ := of_str l4 (by omega)
    obtain ⟨b4, pb4, rb4, vb4, sb4⟩ := of_str (n := 1 + r4) (by omega) (by omega)
    obtain ⟨b5, pb5, rb5, vb5, sb5⟩ := of_str (n := 1 + r5) (by omega) (by omega)
    obtain ⟨c3, pc3, rc3, vc3, sc3⟩ := mul_str sa3 sa4
    obtain ⟨c4, pc4, rc4, vc4, sc4⟩ := mul_str sb4 sb5
    have m3 := Lib.hid p3
    have m4 := Lib.hid p4
    have m5 := Lib.hid p5
    have n3 := Lib.hid pa3
    have n4 := Lib.hid pa4
    have n5 := Lib.hid pb4
    have n6 := Lib.hid pb5
    have k3 := Lib.hid pc3
    have k4 := Lib.hid pc4
    clear p3 p4 p5 pa3 pa4 pb4 pb5 pc3 pc4
    obtain ⟨x, rg, ra, rb, hx, er, pl⟩ := low_str (decide (q0 < 0)) (a := c3) (b := c4) (by omega) (by omega) rc3 (by rw [vc4]; exact Nat.mul_ne_zero (by omega) (by omega))
    refine ⟨x, rg, ra, rb, hx, er, fun w => ?_⟩
    have hw4 : IntKind.i64.wrap (1 + r4) = 1 + r4 := IntWalk.i64_in _ (by omega)
    have hw5 : IntKind.i64.wrap (1 + r5) = 1 + r5 := IntWalk.i64_in _ (by omega)
    have lo := Lib.hid pl
    clear pl er hx
    go_enter Tryz.func11, Tryz.ntmps11
    go_upto_region 1 with fail
    obtain ⟨W0, hW0, hkq, hkr, hB⟩ := new_made w q0 q1 q2
    rw [hW0]
    clear hW0
    obtain ⟨chkq0, chkq1, chkq2⟩ := cells3 hkq (Below.refl _ _)
    go_wp2_with fail
    refine (m0.out _).mono ?_
    rintro e y0 ⟨rfl, hq0⟩
    clear chkq0 chkq1 chkq2
    replace hB := below_then hB hq0
    replace hkq := hkq.belowK hq0
    replace hkr := hkr.belowK hq0
    clear hq0
    obtain ⟨chkq0, chkq1, chkq2⟩ := cells3 hkq (Below.refl _ _)
    go_wp2_with fail
    refine (n0.out _).mono ?_
    rintro e y1 ⟨rfl, hq1⟩
    clear chkq0 chkq1 chkq2
    replace hB := below_then hB hq1
    replace hkq := hkq.belowK hq1
    replace hkr := hkr.belowK hq1
    clear hq1
    obtain ⟨chkq0, chkq1, chkq2⟩ := cells3 hkq (Below.refl _ _)
    go_wp2_with fail
    refine (m1.out _).mono ?_
    rintro e y2 ⟨rfl, hq2⟩
    clear chkq0 chkq1 chkq2
    replace hB := below_then hB hq2
    replace hkq := hkq.belowK hq2
    replace hkr := hkr.belowK hq2
    clear hq2
    obtain ⟨chkq0, chkq1, chkq2⟩ := cells3 hkq (Below.refl _ _)
    go_wp2_with fail
    refine (n1.out _).mono ?_
    rintro e y3 ⟨rfl, hq3⟩
    clear chkq0 chkq1 chkq2
    replace hB := below_then hB hq3
    replace hkq := hkq.belowK hq3
    replace hkr := hkr.belowK hq3
    clear hq3
    obtain ⟨chkq0, chkq1, chkq2⟩ := cells3 hkq (Below.refl _ _)
    go_wp2_with fail
    refine (m2.out _).mono ?_
    rintro e y4 ⟨rfl, hq4⟩
    clear chkq0 chkq1 chkq2
    replace hB := below_then hB hq4
    replace hkq := hkq.belowK hq4
    replace hkr := hkr.belowK hq4
    clear hq4
    obtain ⟨chkq0, chkq1, chkq2⟩ := cells3 hkq (Below.refl _ _)
    go_upto_region 8 with fail
    clear chkq0 chkq1 chkq2
    go_cut [3] (fun s wx => s = .string c3 ∧ Below y4.heap.size y4 wx)
    case first =>
      go_region_held3 (fun W : World => (W.cell? ⟨w.heap.size, 0, none⟩ = some (.int .i64 q0) ∧ W.cell? ⟨w.heap.size, 1, none⟩ = some (.int .i64 q1) ∧ W.cell? ⟨w.heap.size, 2, none⟩ = some (.int .i64 q2)))
        ((refine cells3 hkq ?_; (repeat (first | exact Below.refl _ _ | apply Below.drew | refine below_then ?_ hz0 | refine below_then ?_ hz1 | refine below_then ?_ hz2 | refine below_then ?_ hz3 | refine below_then ?_ hz4))))
        (first
          | (go_at_call 15; (with_reducible refine (m3.out _).mono ?_); rintro e v0 ⟨rfl, hz0⟩)
          | (go_at_call 19; (with_reducible refine (n3.out _).mono ?_); rintro e v1 ⟨rfl, hz1⟩)
          | (go_at_call 15; (with_reducible refine (m4.out _).mono ?_); rintro e v2 ⟨rfl, hz2⟩)
          | (go_at_call 19; (with_reducible refine (n4.out _).mono ?_); rintro e v3 ⟨rfl, hz3⟩)
          | (go_at_call 45; (with_reducible refine (k3.out _).mono ?_); rintro e v4 ⟨rfl, hz4⟩))
      all_goals go_wp2_with fail
      all_goals go_meet
      all_goals
        refine ⟨rfl, ?_⟩
        (repeat (first | exact Below.refl _ _ | apply Below.drew | refine below_then ?_ hz0 | refine below_then ?_ hz1 | refine below_then ?_ hz2 | refine below_then ?_ hz3 | refine below_then ?_ hz4))
    obtain ⟨rfl, hcb⟩ := hcut
    replace hB := below_then hB hcb
    replace hkq := hkq.belowK hcb
    replace hkr := hkr.belowK hcb
    clear hcb
    obtain ⟨chkq0, chkq1, chkq2⟩ := cells3 hkq (Below.refl _ _)
    go_upto_region 9 with fail
    clear chkq0 chkq1 chkq2
    go_region_held3 (fun W : World => (W.cell? ⟨w.heap.size, 0, none⟩ = some (.int .i64 q0) ∧ W.cell? ⟨w.heap.size, 1, none⟩ = some (.int .i64 q1) ∧ W.cell? ⟨w.heap.size, 2, none⟩ = some (.int .i64 q2)))
      ((refine cells3 hkq ?_; (repeat (first | exact Below.refl _ _ | apply Below.drew | refine below_then ?_ hz0 | refine below_then ?_ hz1 | refine below_then ?_ hz2 | refine below_then ?_ hz3 | refine below_then ?_ hz4))))
      (first
        | (go_at_call 15; (with_reducible refine (m4.out _).mono ?_); rintro e v0 ⟨rfl, hz0⟩)
        | (go_at_call 19; (with_reducible refine (n5.out _).mono ?_); rintro e v1 ⟨rfl, hz1⟩)
        | (go_at_call 15; (with_reducible refine (m5.out _).mono ?_); rintro e v2 ⟨rfl, hz2⟩)
        | (go_at_call 19; (with_reducible refine (n6.out _).mono ?_); rintro e v3 ⟨rfl, hz3⟩)
        | (go_at_call 45; (with_reducible refine (k4.out _).mono ?_); rintro e v4 ⟨rfl, hz4⟩))
    have hcb : Below wc.heap.size wc v4 := (by (repeat (first | exact Below.refl _ _ | apply Below.drew | refine below_then ?_ hz0 | refine below_then ?_ hz1 | refine below_then ?_ hz2 | refine below_then ?_ hz3 | refine below_then ?_ hz4)))
    replace hB := below_then hB hcb
    replace hkq := hkq.belowK hcb
    replace hkr := hkr.belowK hcb
    clear hcb
    obtain ⟨chkq0, chkq1, chkq2⟩ := cells3 hkq (Below.refl _ _)
    go_wp2_with fail
    refine (lo.out _).mono ?_
    rintro e yy ⟨rfl, hqq⟩
    clear chkq0 chkq1 chkq2
    replace hB := below_then hB hqq
    replace hkr := hkr.belowK hqq
    clear hqq
    obtain ⟨chkr0, chkr1, chkr2⟩ := cells3 hkr (Below.refl _ _)
    obtain ⟨fhkr0, fhkr1, fhkr2⟩ := free3 hkr (Below.refl _ _)
    go_wp2_with fail
    refine bodyPost_ret (results_rat rfl rfl (hkr.put3 _ _ _)) rfl ?_
    exact ⟨rfl, below_put3 hB (by omega) _ _ _⟩
  · obtain ⟨r3, p3, l3, u3⟩ := mod_int q0 (m := 7) (by omega) (by omega)
    obtain ⟨r4, p4, l4, u4⟩ := mod_int q1 (m := 7) (by omega) (by omega)
    obtain ⟨a3, pa3, ra3, va3, sa3⟩ := of_str l3 (by omega)
    obtain ⟨b4, pb4, rb4, vb4, sb4⟩ := of_str (n := 1 + r4) (by omega) (by omega)
    have m3 := Lib.hid p3
    have m4 := Lib.hid p4
    have n3 := Lib.hid pa3
    have n4 := Lib.hid pb4
    clear p3 p4 pa3 pb4
    obtain ⟨x, rg, ra, rb, hx, er, pl⟩ := low_str (decide (q0 < 0)) (a := a3) (b := b4) (by omega) (by omega) ra3 (by omega)
    refine ⟨x, rg, ra, rb, hx, er, fun w => ?_⟩
    have lo := Lib.hid pl
    clear pl er hx
    go_enter Tryz.func11, Tryz.ntmps11
    go_upto_region 1 with fail
    obtain ⟨W0, hW0, hkq, hkr, hB⟩ := new_made w q0 q1 q2
    rw [hW0]
    clear hW0
    obtain ⟨chkq0, chkq1, chkq2⟩ := cells3 hkq (Below.refl _ _)
    go_wp2_with fail
    refine (m0.out _).mono ?_
    rintro e y0 ⟨rfl, hq0⟩
    clear chkq0 chkq1 chkq2
    replace hB := below_then hB hq0
    replace hkq := hkq.belowK hq0
    replace hkr := hkr.belowK hq0
    clear hq0
    obtain ⟨chkq0, chkq1, chkq2⟩ := cells3 hkq (Below.refl _ _)
    go_wp2_with fail
    refine (n0.out _).mono ?_
    rintro e y1 ⟨rfl, hq1⟩
    clear chkq0 chkq1 chkq2
    replace hB := below_then hB hq1
    replace hkq := hkq.belowK hq1
    replace hkr := hkr.belowK hq1
    clear hq1
    obtain ⟨chkq0, chkq1, chkq2⟩ := cells3 hkq (Below.refl _ _)
    go_wp2_with fail
    refine (m1.out _).mono ?_
    rintro e y2 ⟨rfl, hq2⟩
    clear chkq0 chkq1 chkq2
    replace hB := below_then hB hq2
    replace hkq := hkq.belowK hq2
    replace hkr := hkr.belowK hq2
    clear hq2
    obtain ⟨chkq0, chkq1, chkq2⟩ := cells3 hkq (Below.refl _ _)
    go_wp2_with fail
    refine (n1.out _).mono ?_
    rintro e y3 ⟨rfl, hq3⟩
    clear chkq0 chkq1 chkq2
    replace hB := below_then hB hq3
    replace hkq := hkq.belowK hq3
    replace hkr := hkr.belowK hq3
    clear hq3
    obtain ⟨chkq0, chkq1, chkq2⟩ := cells3 hkq (Below.refl _ _)
    go_wp2_with fail
    refine (m2.out _).mono ?_
    rintro e y4 ⟨rfl, hq4⟩
    clear chkq0 chkq1 chkq2
    replace hB := below_then hB hq4
    replace hkq := hkq.belowK hq4
    replace hkr := hkr.belowK hq4
    clear hq4
    obtain ⟨chkq0, chkq1, chkq2⟩ := cells3 hkq (Below.refl _ _)
    go_wp2_with fail
    refine (m3.out _).mono ?_
    rintro e y5 ⟨rfl, hq5⟩
    clear chkq0 chkq1 chkq2
    replace hB := below_then hB hq5
    replace hkq := hkq.belowK hq5
    replace hkr := hkr.belowK hq5
    clear hq5
    obtain ⟨chkq0, chkq1, chkq2⟩ := cells3 hkq (Below.refl _ _)
    go_wp2_with fail
    refine (n3.out _).mono ?_
    rintro e y6 ⟨rfl, hq6⟩
    clear chkq0 chkq1 chkq2
    replace hB := below_then hB hq6
    replace hkq := hkq.belowK hq6
    replace hkr := hkr.belowK hq6
    clear hq6
    obtain ⟨chkq0, chkq1, chkq2⟩ := cells3 hkq (Below.refl _ _)
    go_wp2_with fail
    refine (m4.out _).mono ?_
    rintro e y7 ⟨rfl, hq7⟩
    clear chkq0 chkq1 chkq2
    replace hB := below_then hB hq7
    replace hkq := hkq.belowK hq7
    replace hkr := hkr.belowK hq7
    clear hq7
    obtain ⟨chkq0, chkq1, chkq2⟩ := cells3 hkq (Below.refl _ _)
    go_wp2_with fail
    refine (n4.out _).mono ?_
    rintro e y8 ⟨rfl, hq8⟩
    clear chkq0 chkq1 chkq2
    replace hB := below_then hB hq8
    replace hkq := hkq.belowK hq8
    replace hkr := hkr.belowK hq8
    clear hq8
    obtain ⟨chkq0, chkq1, chkq2⟩ := cells3 hkq (Below.refl _ _)
    go_wp2_with fail
    refine (lo.out _).mono ?_
    rintro e yy ⟨rfl, hqq⟩
    clear chkq0 chkq1 chkq2
    replace hB := below_then hB hqq
    replace hkr := hkr.belowK hqq
    clear hqq
    obtain ⟨chkr0, chkr1, chkr2⟩ := cells3 hkr (Below.refl _ _)
    obtain ⟨fhkr0, fhkr1, fhkr2⟩ := free3 hkr (Below.refl _ _)
    go_wp2_with fail
    refine bodyPost_ret (results_rat rfl rfl (hkr.put3 _ _ _)) rfl ?_
    exact ⟨rfl, below_put3 hB (by omega) _ _ _⟩

set_option maxHeartbeats 400000 in
theorem frac_q (n d : Int) (hn : -1000 ≤ n ∧ n ≤ 1000) (hd : -1000 ≤ d ∧ d ≤ 1000) (h0 : d ≠ 0) : Ret 44 #[.int .i64 n, .int .i64 d] (ratV ((n : Rat) / (d : Rat))) := by
  intro w
  have sm : ∀ k : Int, -1000 ≤ k ∧ k ≤ 1000 → Sm 2 (k : Rat) := fun k hk => ⟨by show k.natAbs < 65536; omega, by show 1 < 65536; omega⟩
  obtain ⟨g1, a1, b1, e1, -, -, -, s1, s2, o1⟩ := words (sm n hn)
  obtain ⟨g2, a2, b2, e2, -, -, -, s3, s4, o2⟩ := words (sm d hd)
  obtain ⟨rg, ra, rb, er, -⟩ := words ((sm n hn).quo (sm d hd) h0)
  have p1 := rOf_q n (by omega) (by omega)
  have p2 := rOf_q d (by omega) (by omega)
  have p3 := rQuo_q g1 a1 b1 g2 a2 b2 (by omega) (by omega) (by omega) (by omega)
  rw [o1, o2, show quoQ (n : Rat) (d : Rat) = .tuple #[ratV ((n : Rat) / (d : Rat)), .bool true] from if_neg h0, er] at p3
  rw [e1] at p1
  rw [e2] at p2
  rw [er]
  have m1 := Lib.hid p1
  have m2 := Lib.hid p2
  have m3 := Lib.hid p3
  clear p1 p2 p3 e1 e2 er o1 o2 sm
  have hB := Below.refl w.heap.size w
  go_enter Tryz.func44, Tryz.ntmps44
  go_wp2_with fail
  refine (m1.out _).mono ?_
  rintro e w1 ⟨rfl, hb1⟩
  have hkr := (Blk.new w _ _).belowK hb1
  replace hB := below_then (below_al hB _) hb1
  clear hb1
  go_wp2_with fail
  refine (m2.out _).mono ?_
  rintro e w2 ⟨rfl, hb2⟩
  replace hB := below_then hB hb2
  replace hkr := hkr.belowK hb2
  clear hb2
  go_wp2_with fail
  refine (m3.out _).mono ?_
  rintro e w3 ⟨rfl, hb3⟩
  replace hB := below_then hB hb3
  replace hkr := hkr.belowK hb3
  clear hb3
  obtain ⟨chkr0, chkr1, chkr2⟩ := cells3 hkr (Below.refl _ _)
  obtain ⟨fhkr0, fhkr1, fhkr2⟩ := free3 hkr (Below.refl _ _)
  have hlt := hkr.lt
  go_wp2_with fail
  refine bodyPost_ret (results_rat rfl rfl ((hkr.put3 _ _ _).alloc _)) rfl ?_
  exact ⟨rfl, below_al (below_put3 hB (Nat.le_refl _) _ _ _) _⟩

end Go.Proofs.YtikdkhmeaoafmaaGreatDoor
