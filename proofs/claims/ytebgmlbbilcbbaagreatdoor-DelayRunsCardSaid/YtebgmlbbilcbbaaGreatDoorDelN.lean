/- The law DelayRuns. -/
import Derived.Test.YtebgmlbbilcbbaaGreatDoorDelM
namespace Go.Proofs.YtebgmlbbilcbbaaGreatDoor
open Go.RowKit

set_option maxRecDepth 100000 in
set_option maxHeartbeats 2000000 in
theorem DelayRuns_any (s : ByteArray) (A : Option Addr) (n c : Nat) (l : List UInt8) (t : Int) (w : World) (hT : Tabs w) (hx : BDg w A n c l) (hs : s.size ≤ 9223372036854775807) (hn : n ≤ 9223372036854775807) (ht : -9223372036854775808 ≤ t ∧ t ≤ 9223372036854775807) :
    Calls Tryz.prog 7 #[.string s, .slice A n c, .int .i64 t] w fun e w' => e = .returned (.bool true) ∧ Below w.heap.size w w' := by
  have HT := Lib.hid hT
  have HX := Lib.hid hx
  clear hT hx
  have ms := Lib.hid sanity10
  have m7 := Lib.hid (fun W h => rMade A n c l W h hn)
  have hsz := madeS_size l
  generalize madeS l = x at m7 hsz
  obtain ⟨k, hk, hk2⟩ : ∃ k : Nat, t % 64 = (k : Int) ∧ k ≤ 63 := ⟨(t % 64).toNat, by omega, by omega⟩
  have hand : bits .and .i64 t 63 = (k : Int) := (i64_and63 t).trans hk
  have m8 := Lib.hid (Run_yes x k (by omega) (by omega))
  have m9 := Lib.hid (rRun_yes x k (by omega) (by omega))
  have m10 := Lib.hid (Square_q x (by omega))
  have m11 := Lib.hid (rSquare_q x (by omega))
  generalize natS (ranN (sval x) k) = y at m8 m9
  generalize natS (sval x * sval x % modN) = z at m10 m11
  have heq : ∀ s : ByteArray, (s.toList == s.toList) = true := fun s => by simp
  obtain ⟨q, hq, hq2, hq3⟩ : ∃ q : Nat, min (s.size : Int) 200 = (q : Int) ∧ q ≤ 200 ∧ q ≤ s.size := ⟨min s.size 200, by omega, by omega, by omega⟩
  go_enter Tryz.func7, Tryz.ntmps7
  have hB : Below w.heap.size w w := Below.refl _ _
  go_upto_region 6 with (first
    | (go_at_call 17; (with_reducible refine (ms.out _ ?_).mono ?_); (exact HT.out.below hB); rintro e wz ⟨rfl, hb⟩; replace hB := below_then hB hb; clear hb)
    | (go_at_call 19; (with_reducible refine (m7.out _ ?_).mono ?_); (exact HX.out.below hB); rintro e wz ⟨rfl, rfl⟩)
    | (go_at_call 36; (with_reducible refine (m8.out _).mono ?_); rintro e wz ⟨rfl, hb⟩; replace hB := below_then hB hb; clear hb)
    | (go_at_call 37; (with_reducible refine (m9.out _).mono ?_); rintro e wz ⟨rfl, hb⟩; replace hB := below_then hB hb; clear hb))
  have hu : (s.extract 0 q).size ≤ 200 := by rw [ByteArray.size_extract]; omega
  generalize s.extract 0 q = u at hu ⊢
  have m12 := Lib.hid (Start_q u (by omega))
  have m13 := Lib.hid (rStart_q u (by omega))
  generalize natS (startN u.data.toList) = v at m12 m13
  go_upto_region 8 with (first
    | (go_at_call 38; (with_reducible refine (m12.out _ ?_).mono ?_); (exact HT.out.below hB); rintro e wz ⟨rfl, hb⟩; replace hB := below_then hB hb; clear hb)
    | (go_at_call 39; (with_reducible refine (m13.out _).mono ?_); rintro e wz ⟨rfl, hb⟩; replace hB := below_then hB hb; clear hb)
    | (go_at_call 40; (with_reducible refine (m10.out _).mono ?_); rintro e wz ⟨rfl, hb⟩; replace hB := below_then hB hb; clear hb)
    | (go_at_call 20; (with_reducible refine (m11.out _).mono ?_); rintro e wz ⟨rfl, hb⟩; replace hB := below_then hB hb; clear hb))
  clear m8 m9 m10 m11 m12 m13
  by_cases h0 : 0 ≤ t
  · by_cases h1 : t ≤ 1048576
    · go_wp2_with fail
      go_ret
      exact ⟨rfl, hB⟩
    · have m14 := Lib.hid (Run_no x t (by omega))
      go_wp2_with (first
        | (go_at_call 36; (with_reducible refine (m14.out _).mono ?_); rintro e wz ⟨rfl, hb⟩; replace hB := below_then hB hb; clear hb))
      go_ret
      exact ⟨rfl, hB⟩
  · have m14 := Lib.hid (Run_no x t (by omega))
    go_wp2_with (first
      | (go_at_call 36; (with_reducible refine (m14.out _).mono ?_); rintro e wz ⟨rfl, hb⟩; replace hB := below_then hB hb; clear hb))
    go_ret
    exact ⟨rfl, hB⟩

end Go.Proofs.YtebgmlbbilcbbaaGreatDoor
