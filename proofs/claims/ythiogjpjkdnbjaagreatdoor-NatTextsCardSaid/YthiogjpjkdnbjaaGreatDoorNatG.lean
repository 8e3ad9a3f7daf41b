/- estimate: its contract. -/
import Derived.Test.YthiogjpjkdnbjaaGreatDoorNatB
import Derived.Deep.QuietTactic
import Derived.BigQuiet
import Derived.WalkMore
import Derived.Deep.DeepCutAuto
namespace Go.Proofs.YthiogjpjkdnbjaaGreatDoor
open Go.RowKit

set_option maxHeartbeats 1000000 in
theorem estimate_raw (g j m cu gv cv : Nat) (u2 u1 u0 v1 v0 : Nat) (w : World)
    (hu2 : w.cell? ⟨g, j + (m + 2), none⟩ = some (.int .u32 (u2 : Int))) (hu1 : w.cell? ⟨g, j + (m + 1), none⟩ = some (.int .u32 (u1 : Int))) (hu0 : w.cell? ⟨g, j + m, none⟩ = some (.int .u32 (u0 : Int)))
    (hv1 : w.cell? ⟨gv, m + 1, none⟩ = some (.int .u32 (v1 : Int))) (hv0 : w.cell? ⟨gv, m, none⟩ = some (.int .u32 (v0 : Int)))
    (l2 : u2 < 4294967296) (l1 : u1 < 4294967296) (l0 : u0 < 4294967296) (k1 : v1 < 4294967296) (k0 : v0 < 4294967296) (hm : m ≤ 1000000) (hnz : 0 < v1) (hle : u2 ≤ v1) (q : Nat) (hq : q < 4294967296)
    (hover : ∀ t r : Nat, t * v1 + r = u2 * 4294967296 + u1 → r * 4294967296 + u0 < t * v0 → q < t) (hmore : ∀ t r : Nat, t * v1 + r = u2 * 4294967296 + u1 → r < v1 → q ≤ t) :
    Calls Tryz.prog 72 #[.slice (some ⟨g, j, none⟩) (m + 3) cu, .slice (some ⟨gv, 0, none⟩) (m + 3) cv] w fun e w' => ∃ t r : Nat, e = .returned (.int .u64 (t : Int)) ∧ t * v1 + r = u2 * 4294967296 + u1 ∧ q ≤ t ∧ t < 4294967296 ∧ t * v0 ≤ r * 4294967296 + u0 ∧ ∃ n, w' = w.drewN n := by
  have HO := Lib.hid hover
  have HM := Lib.hid hmore
  clear hover hmore
  have hor := u64_or_hi u2 u1 l2 l1
  obtain ⟨t0, ht0⟩ : ∃ t, t = (u2 * 4294967296 + u1) / v1 := ⟨_, rfl⟩
  obtain ⟨r0, hr0⟩ : ∃ t, t = (u2 * 4294967296 + u1) % v1 := ⟨_, rfl⟩
  have hq2 : ((u2 : Int) * 4294967296 + u1) / v1 = (t0 : Int) := by rw [ht0]; simp
  have hr2 : ((u2 : Int) * 4294967296 + u1) % v1 = (r0 : Int) := by rw [hr0]; simp
  have htr : t0 * v1 + r0 = u2 * 4294967296 + u1 := by rw [ht0, hr0, Nat.mul_comm]; exact Nat.div_add_mod _ _
  have hrl : r0 < v1 := by rw [hr0]; exact Nat.mod_lt _ hnz
  have HTR := Lib.hid htr
  clear ht0 hr0 htr
  go_enter Tryz.func72, Tryz.ntmps72
  go_wp2_with fail
  go_step3
  go_upto_region 2 with fail
  go_cut [6] (fun s6 wx => s6 = .int .u64 ((u2 : Int) * 4294967296 + u1) ∧ ∃ n, wx = w.drewN n)
  case first =>
    go_quiet (fail)
    go_wp2_with fail
    go_meet
    exact ⟨rfl, _, rfl⟩
  obtain ⟨rfl, n1, rfl⟩ := hcut
  go_upto_region 3 with fail
  go_cut [7, 8] (fun s7 s8 wx => s7 = .int .u64 (t0 : Int) ∧ s8 = .int .u64 (r0 : Int) ∧ ∃ n, wx = w.drewN n)
  case first =>
    go_quiet (fail)
    go_wp2_with fail
    go_meet
    exact ⟨by rw [hq2], by rw [hr2], _, World.drewN_drewN _ _ _⟩
  obtain ⟨rfl, rfl, n2, rfl⟩ := hcut
  go_wp2_with fail
  go_step3
  go_wp2_with fail
  go_loopw [7, 8] (fun s7 s8 wr => ∃ (t r : Nat), s7 = .int .u64 (t : Int) ∧ s8 = .int .u64 (r : Int) ∧ Hid (t * v1 + r = u2 * 4294967296 + u1) ∧ q ≤ t ∧ r < 8589934592 ∧ t ≤ 18446744073709551615 ∧ ∃ n, wr = w.drewN n) (fun _ s8 _ => 8589934592 - (intOf s8).toNat)
  case atStart =>
    refine ⟨t0, r0, rfl, rfl, HTR, HM.out _ _ HTR.out hrl, by omega, ?_, _, rfl⟩
    have := HTR.out
    have : t0 * 1 ≤ t0 * v1 := Nat.mul_le_mul_left _ hnz
    omega
  case round =>
    obtain ⟨t, r, rfl, rfl, HT, hqt, hrl2, htl, nd, rfl⟩ := hrel
    by_cases hr1 : r ≤ 4294967295
    · by_cases ht1 : t ≤ 4294967295
      · have hor2 := u64_or_hi r u0 (by omega) l0
        have hxy : (t : Int) * v0 ≤ 18446744065119617025 := by
          have : t * v0 ≤ 4294967295 * 4294967295 := Nat.mul_le_mul (by omega) (by omega)
          have : ((t * v0 : Nat) : Int) ≤ 18446744065119617025 := by omega
          simpa using this
        have hxy0 : 0 ≤ (t : Int) * v0 := by
          have : 0 ≤ ((t * v0 : Nat) : Int) := by omega
          simpa using this
        have hg : decide ((t : Int) ≤ 4294967295) = true := by simp; omega
        by_cases hc : t * v0 ≤ r * 4294967296 + u0
        · have hc2 : (t : Int) * v0 ≤ (r : Int) * 4294967296 + u0 := by
            have : ((t * v0 : Nat) : Int) ≤ ((r * 4294967296 + u0 : Nat) : Int) := by omega
            simpa using this
          go_wp2_with fail
          go_quiet (fail)
          go_wp2_with fail
          rw [Exit.noGoto_ret]
          go_ret
          exact ⟨t, r, rfl, HT.out, hqt, by omega, hc, _, World.drewN_drewN _ _ _⟩
        · have hc2 : ¬ (t : Int) * v0 ≤ (r : Int) * 4294967296 + u0 := by
            intro h1
            have : ((t * v0 : Nat) : Int) ≤ ((r * 4294967296 + u0 : Nat) : Int) := by simpa using h1
            omega
          have h1t : 1 ≤ t := by
            rcases Nat.eq_zero_or_pos t with h1 | h1
            · subst h1; omega
            · exact h1
          go_wp2_with fail
          go_quiet (fail)
          go_wp2_with fail
          go_roundw
          case rel =>
            refine ⟨t - 1, r + v1, by go_num, by go_num, ?_, by have := HO.out t r HT.out (by omega); omega, by omega, by omega, _, rfl⟩
            obtain ⟨t', rfl⟩ : ∃ t', t = t' + 1 := ⟨t - 1, by omega⟩
            have e := HT.out
            show _ = _
            rw [Nat.add_mul] at e
            rw [Nat.add_sub_cancel]
            omega
          case measure => simp [intOf]; omega
      · have hg : decide ((t : Int) ≤ 4294967295) = false := by simp; omega
        go_wp2_with fail
        go_quiet (fail)
        go_wp2_with fail
        go_roundw
        case rel =>
          refine ⟨t - 1, r + v1, by go_num, by go_num, ?_, by omega, by omega, by omega, _, rfl⟩
          obtain ⟨t', rfl⟩ : ∃ t', t = t' + 1 := ⟨t - 1, by omega⟩
          have e := HT.out
          show _ = _
          rw [Nat.add_mul] at e
          rw [Nat.add_sub_cancel]
          omega
        case measure => simp [intOf]; omega
    · have htb : t < 4294967296 := by
        rcases Nat.lt_or_ge t 4294967296 with h1 | h1
        · exact h1
        · exfalso
          have e := HT.out
          have : 4294967296 * v1 ≤ t * v1 := Nat.mul_le_mul_right _ h1
          omega
      have hxy : t * v0 ≤ 4294967295 * 4294967295 := Nat.mul_le_mul (by omega) (by omega)
      go_wp2_with fail
      rw [Exit.noGoto_ret]
      go_ret
      exact ⟨t, r, rfl, HT.out, hqt, htb, by omega, _, rfl⟩

end Go.Proofs.YthiogjpjkdnbjaaGreatDoor
