/- Rests from 0 on: Mod of the references. -/
import Derived.Test.YtebgmlbbilcbbaaGreatDoorHelps
import Derived.IntWalk
import Derived.Deep.QuietTactic
import Derived.BigQuiet
namespace Go.Proofs.YtebgmlbbilcbbaaGreatDoor
open Go.RowKit

set_option maxHeartbeats 400000 in
theorem Mod_q (n m : Int) (h3 : 0 < m) (h4 : m ≤ 4611686018427387904) : Ret 54 #[.int .i64 n, .int .i64 m] (.int .i64 (n % m)) := by
  intro w
  have hm0 : ¬ m = 0 := by omega
  have hr := Int.emod_nonneg n hm0
  have hl := Int.emod_lt_of_pos n h3
  have ht : n.tmod m = n % m ∨ (n.tmod m = n % m - m ∧ n.tmod m < 0) := by
    rw [Int.tmod_eq_emod]
    split
    · left; omega
    · right
      rename_i hh
      have hz : n % m ≠ 0 := fun e => hh (.inr (Int.dvd_of_emod_eq_zero e))
      rw [Int.natAbs_of_nonneg (by omega)]
      omega
  generalize n % m = r at *
  generalize htm : n.tmod m = t at *
  have hb0 : (m == 0) = false := by rw [beq_eq_false_iff_ne]; omega
  have hw : IntKind.i64.wrap t = t := IntWalk.i64_in _ (by omega)
  rcases ht with rfl | ⟨ht, hneg⟩
  · go_enter Tryz.func54, Tryz.ntmps54
    go_wp2_with fail
    go_ret
    exact ⟨rfl, Below.refl _ _⟩
  · have hs : IntKind.i64.wrap (t + m) = t + m := IntWalk.i64_in _ (by omega)
    obtain rfl : r = t + m := by omega
    clear ht
    go_enter Tryz.func54, Tryz.ntmps54
    go_wp2_with fail
    go_ret
    exact ⟨rfl, Below.refl _ _⟩

set_option maxHeartbeats 400000 in
theorem rMod1_q (n m : Int) (h3 : 0 < m) (h4 : m ≤ 4611686018427387904) : Ret 43 #[.int .i64 n, .int .i64 m] (.int .i64 (n % m)) := by
  intro w
  have hr := Int.emod_nonneg n (show m ≠ 0 by omega)
  have hl := Int.emod_lt_of_pos n h3
  have ht : (n.tmod m + m) % m = n % m ∧ -m < n.tmod m ∧ n.tmod m < m := by
    rw [Int.tmod_eq_emod]
    split
    · rw [show n % m - ((0 : Nat) : Int) = n % m by omega, Int.add_emod_right, Int.emod_emod_of_dvd _ (Int.dvd_refl m)]
      exact ⟨rfl, by omega, by omega⟩
    · rename_i hh
      have hz : n % m ≠ 0 := fun e => hh (.inr (Int.dvd_of_emod_eq_zero e))
      rw [Int.natAbs_of_nonneg (by omega), Int.sub_add_cancel, Int.emod_emod_of_dvd _ (Int.dvd_refl m)]
      exact ⟨rfl, by omega, by omega⟩
  generalize n % m = r at *
  generalize htm : n.tmod m = t at *
  obtain ⟨hv, h5, h6⟩ := ht
  have hb0 : (m == 0) = false := by rw [beq_eq_false_iff_ne]; omega
  have hw : IntKind.i64.wrap t = t := IntWalk.i64_in _ (by omega)
  have hs : IntKind.i64.wrap (t + m) = t + m := IntWalk.i64_in _ (by omega)
  go_enter Tryz.func43, Tryz.ntmps43
  go_wp2_with fail
  go_ret
  exact ⟨congrArg (fun z => Ending.returned (.int .i64 z)) hv, Below.refl _ _⟩

end Go.Proofs.YtebgmlbbilcbbaaGreatDoor
