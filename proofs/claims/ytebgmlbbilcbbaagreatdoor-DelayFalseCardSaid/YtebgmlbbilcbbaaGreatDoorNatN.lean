/- newMontgomery: its contract. -/
import Derived.Test.YtebgmlbbilcbbaaGreatDoorNatL
import Derived.Test.YtebgmlbbilcbbaaGreatDoorPlainAll
namespace Go.Proofs.YtebgmlbbilcbbaaGreatDoor
open Go.RowKit

set_option maxHeartbeats 1000000 in
theorem newMontgomery_any (A : Option Addr) (n c : Nat) (ms : List Nat) (m0 : Nat) (w : World) (h : Dig w A n c ms) (h0 : ms[0]? = some m0) (hodd : m0 % 2 = 1) :
    Calls Tryz.prog 197 #[.slice A n c] w fun e w' => ∃ inv : Nat, e = .returned (.agg #[.slice A n c, .int .u32 (inv : Int)]) ∧ inv < 4294967296 ∧ ((m0 : Int) * inv + 1) % 4294967296 = 0 ∧ Below w.heap.size w w' := by
  have hn0 : 0 < n := by
    rw [← h.len]
    exact (List.getElem?_eq_some_iff.1 h0).1
  obtain ⟨b, o, m0', rfl, hm, hml, hmc⟩ := h.get hn0
  obtain rfl : m0' = m0 := by rw [h0] at hm; simpa using hm.symm
  rw [Nat.add_zero] at hmc
  have hmc2 : (w.alloc (.cells #[.slice none 0 0, .int .u32 0] 211)).cell? ⟨b, o, none⟩ = some (.int .u32 (m0' : Int)) := (World.cell?_alloc_lt _ _ _ (block_lt_of_cell hmc)).trans hmc
  clear hm h0
  go_enter Tryz.func197, Tryz.ntmps197
  go_wp2_with fail
  go_loop [3, 7] (fun s3 s7 => ∃ (k v : Nat), k ≤ 5 ∧ s7 = .int .i64 (k : Int) ∧ s3 = .int .u32 (v : Int) ∧ v < 4294967296 ∧ Hid (((2 : Int) ^ invBits k) ∣ ((m0' : Int) * v - 1))) (fun _ s7 => 5 - (intOf s7).toNat)
  case atStart => exact ⟨0, m0', by omega, rfl, rfl, hml, odd_square m0' hodd⟩
  case round =>
    obtain ⟨k, v, hk, rfl, rfl, hv, HI⟩ := hrel
    by_cases hlt : k < 5
    · go_wp2_with fail
      go_round
      case rel =>
        have hnn : 0 ≤ (v : Int) * ((2 - (m0' : Int) * v) % 4294967296) % 4294967296 := Int.emod_nonneg _ (by omega)
        have hll : (v : Int) * ((2 - (m0' : Int) * v) % 4294967296) % 4294967296 < 4294967296 := Int.emod_lt_of_pos _ (by omega)
        obtain ⟨u, hu⟩ := Int.eq_ofNat_of_zero_le hnn
        refine ⟨k + 1, u, by omega, by go_num, by rw [hu], by omega, ?_⟩
        have e := inv_step HI.out
        have e2 : (2 - (m0' : Int) * v % 4294967296) % 4294967296 = (2 - (m0' : Int) * v) % 4294967296 := by omega
        rw [e2, hu] at e
        exact e
      case measure => simp [intOf]; omega
    · obtain rfl : k = 5 := by omega
      go_wp2_with fail
      have hnn : 0 ≤ -(v : Int) % 4294967296 := Int.emod_nonneg _ (by omega)
      have hll : -(v : Int) % 4294967296 < 4294967296 := Int.emod_lt_of_pos _ (by omega)
      obtain ⟨u, hu⟩ := Int.eq_ofNat_of_zero_le hnn
      have hend := inv_end HI.out (u := (u : Int)) hu.symm
      rw [hu]
      exact bodyPost_ret (v := .agg #[.slice (some ⟨b, o, none⟩) n c, .int .u32 (u : Int)]) (by simp [results, Tryz.results197, go_sem]) rfl ⟨u, rfl, by omega, hend, (Below.refl _ _).alloc (Nat.le_refl _) _⟩

end Go.Proofs.YtebgmlbbilcbbaaGreatDoor
