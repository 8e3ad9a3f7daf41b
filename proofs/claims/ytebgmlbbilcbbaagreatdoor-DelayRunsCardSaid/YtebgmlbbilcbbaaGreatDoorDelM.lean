/- The law DelayNil. -/
import Derived.Test.YtebgmlbbilcbbaaGreatDoorDelL
import Derived.Test.YtebgmlbbilcbbaaGreatDoorMade
namespace Go.Proofs.YtebgmlbbilcbbaaGreatDoor
open Go.RowKit

set_option maxRecDepth 100000 in
set_option maxHeartbeats 4000000 in
theorem DelayNil_any (A : Option Addr) (n c : Nat) (l : List UInt8) (t : Int) (w : World) (hT : Tabs w) (hx : BDg w A n c l) (hn : n ≤ 9223372036854775807) (ht : -9223372036854775808 ≤ t ∧ t ≤ 9223372036854775807) :
    Calls Tryz.prog 5 #[.slice A n c, .int .i64 t] w fun e w' => e = .returned (.bool true) ∧ Below w.heap.size w w' := by
  have HT := Lib.hid hT
  have HX := Lib.hid hx
  clear hT hx
  have ms := Lib.hid sanity10
  have m1 := Lib.hid End_nil
  have m2 := Lib.hid (fun (g : Nat) (W : World) (hk : Blk W g 46 (workA ⟨#[]⟩ 0 0)) => End_yes g ⟨#[]⟩ 0 W hk)
  have m3 := Lib.hid (Step_nil t)
  have m4 := Lib.hid Save_nil
  have m5 := Lib.hid (fun g W hk => zStep g t ht W hk)
  have m6 := Lib.hid zSave
  have m7 := Lib.hid (fun W h => rMade A n c l W h hn)
  have hsz := madeS_size l
  generalize madeS l = x at m7 hsz
  go_enter Tryz.func5, Tryz.ntmps5
  have hB : Below w.heap.size w w := Below.refl _ _
  go_upto_region 5 with (first
    | (go_at_call 17; (with_reducible refine (ms.out _ ?_).mono ?_); (exact HT.out.below hB); rintro e wz ⟨rfl, hb⟩; replace hB := below_then hB hb; clear hb)
    | (go_at_call 29; (with_reducible refine (m1.out _).mono ?_); rintro e wz ⟨rfl, hb⟩; replace hB := below_then hB hb; clear hb))
  refine name1p ?_
  intro wy hk hb
  have hg : w.heap.size ≤ wz.heap.size := hB.size
  replace hB := below_then hB hb
  clear hb
  replace hk : Blk wy wz.heap.size 46 (workA ⟨#[]⟩ 0 0) := hk
  generalize wz.heap.size = g at hk hg ⊢
  go_upto_region 8 with (first
    | (go_at_call 29; (with_reducible refine (m2.out g _ ?_).mono ?_); (with_reducible exact hk); rintro e wz ⟨rfl, hb⟩; replace hB := below_then hB hb; replace hk := hk.below hb hk.lt; clear hb)
    | (go_at_call 30; (with_reducible refine (m3.out _).mono ?_); rintro e wz ⟨rfl, hb⟩; replace hB := below_then hB hb; replace hk := hk.below hb hk.lt; clear hb)
    | (go_at_call 30; (with_reducible refine (m5.out g _ ?_).mono ?_); (with_reducible exact hk); rintro e wz ⟨rfl, hk2, hg2⟩; replace hB := hB.grown hg2 hB.size (fun k e => by cases e; exact hg); replace hk := hk2; clear hg2 hk2)
    | (go_at_call 31; (with_reducible refine (m4.out _).mono ?_); rintro e wz ⟨rfl, hb⟩; replace hB := below_then hB hb; replace hk := hk.below hb hk.lt; clear hb)
    | (go_at_call 31; (with_reducible refine (m6.out g _ ?_ ?_).mono ?_); (exact HT.out.below hB); (with_reducible exact hk); rintro e wz ⟨rfl, hb⟩; replace hB := below_then hB hb; replace hk := hk.below hb hk.lt; clear hb))
  clear hk hg
  by_cases hr : t < 0 ∨ 1048576 < t
  · have m8 := Lib.hid (New_no x t hr)
    have hd : (decide (t < 0) || decide (1048576 < t)) = true := by simp [hr]
    go_upto_region 9 with (first
      | (go_at_call 19; (with_reducible refine (m7.out _ ?_).mono ?_); (exact HX.out.below hB); rintro e wz ⟨rfl, rfl⟩)
      | (go_at_call 32; (with_reducible refine (m8.out _).mono ?_); rintro e wz ⟨rfl, hb⟩; replace hB := below_then hB hb; clear hb))
    by_cases h0 : t < 0
    · have hd0 : decide (t < 0) = true := by simp [h0]
      go_wp2_with fail
      go_ret
      exact ⟨rfl, hB⟩
    · have hd0 : decide (t < 0) = false := by simp [h0]
      have h1 : 1048576 < t := by omega
      go_wp2_with fail
      go_ret
      exact ⟨rfl, hB⟩
  · obtain ⟨T, rfl⟩ := Int.eq_ofNat_of_zero_le (show 0 ≤ t by omega)
    have hTl : T ≤ 1048576 := by omega
    have m8 := Lib.hid (fun W => New_yes x T (by omega) hTl W)
    have m9 := Lib.hid (fun g W hk => nStep g (natS (sval x % modN)) T hTl 0 (.inl rfl) (natS_mod _) W hk)
    have m10 := Lib.hid (fun g W hk => nStep g (natS (sval x % modN)) T hTl (-1) (.inr rfl) (natS_mod _) W hk)
    have h0 : ¬ (T : Int) < 0 := by omega
    have h1 : ¬ 1048576 < (T : Int) := by omega
    have hd : (decide (T = 0)) = ((T : Int) == 0) := by rw [Bool.eq_iff_iff]; simp
    rw [hd] at m9 m10
    go_wp2_with (first
      | (go_at_call 19; (with_reducible refine (m7.out _ ?_).mono ?_); (exact HX.out.below hB); rintro e wz ⟨rfl, rfl⟩)
      | (go_at_call 32; (with_reducible refine (m8.out _).mono ?_); rintro e wz ⟨g2, rfl, hg, hk, hb⟩; replace hg := Nat.le_trans hB.size hg; replace hB := below_then hB hb; clear hb)
      | (go_at_call 30; (with_reducible refine (m9.out g2 _ ?_).mono ?_); (with_reducible exact hk); rintro e wz ⟨rfl, hk2, hg2⟩; replace hB := hB.grown hg2 hB.size (fun k e => by cases e; exact hg); replace hk := hk2; clear hg2 hk2)
      | (go_at_call 30; (with_reducible refine (m10.out g2 _ ?_).mono ?_); (with_reducible exact hk); rintro e wz ⟨rfl, hk2, hg2⟩; replace hB := hB.grown hg2 hB.size (fun k e => by cases e; exact hg); replace hk := hk2; clear hg2 hk2))
    go_ret
    exact ⟨by simp, hB⟩

end Go.Proofs.YtebgmlbbilcbbaaGreatDoor
