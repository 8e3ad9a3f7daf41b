/- Made. -/
import Derived.Test.YtebgmlbbilcbbaaGreatDoorDelA
namespace Go.Proofs.YtebgmlbbilcbbaaGreatDoor
open Go.RowKit

/-- The number that Made makes. -/
def madeS (l : List UInt8) : ByteArray := ⟨(l.take 40).toArray⟩
theorem madeS_size (l : List UInt8) : (madeS l).size ≤ 40 := by show (l.take 40).toArray.size ≤ 40; simp; omega

set_option maxHeartbeats 400000 in
theorem rMade (A : Option Addr) (n c : Nat) (l : List UInt8) (w : World) (h : BDg w A n c l) (hn : n ≤ 9223372036854775807) :
    Calls Tryz.prog 19 #[.slice A n c] w fun e w' => e = .returned (.string (madeS l)) ∧ w = w' := by
  obtain ⟨m, hm⟩ : ∃ m, m = min n 40 := ⟨_, rfl⟩
  have hmn : m ≤ n := by omega
  have hcap := h.cap
  have hcv := run_bdg_nat (h.take hmn)
  have hmin : min (n : Int) 40 = (m : Int) := by omega
  have HS : Hid ((⟨(l.take m).toArray⟩ : ByteArray) = madeS l) := Lib.hid (by
    have e : l.take m = l.take 40 := by
      rw [hm, ← h.len]
      rcases Nat.le_total l.length 40 with h1 | h1
      · rw [Nat.min_eq_left h1, List.take_of_length_le (Nat.le_refl _), List.take_of_length_le h1]
      · rw [Nat.min_eq_right h1]
    unfold madeS
    rw [e])
  clear hm
  go_enter Tryz.func19, Tryz.ntmps19
  go_wp2_with fail
  go_ret
  exact ⟨by rw [← HS.out]; rfl, rfl⟩

end Go.Proofs.YtebgmlbbilcbbaaGreatDoor
