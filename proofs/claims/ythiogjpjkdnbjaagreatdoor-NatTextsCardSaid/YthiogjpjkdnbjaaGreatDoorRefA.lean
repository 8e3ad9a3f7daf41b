/- The reference's Canon, Right, Int, small: what they return. -/
import Derived.Test.YthiogjpjkdnbjaaGreatDoorDefs
import Derived.Test.YthiogjpjkdnbjaaGreatDoorPlainR
namespace Go.Proofs.YthiogjpjkdnbjaaGreatDoor
open Go.RowKit

theorem ext_drop (s : ByteArray) (k : Nat) : s.extract k s.size = ⟨(s.data.toList.drop k).toArray⟩ := by
  apply ByteArray.ext
  rw [ByteArray.data_extract]
  apply Array.toList_inj.1
  rw [Array.toList_extract]
  rw [List.extract_eq_take_drop, List.take_of_length_le]
  rw [List.length_drop, Array.length_toList]
  exact Nat.le_refl _

theorem drop_byte (s : ByteArray) {k : Nat} (h : k < s.size) : s.data.toList.drop k = s[k] :: s.data.toList.drop (k + 1) := by
  rw [List.drop_eq_getElem_cons (by simpa using h)]; rfl

theorem strip0_cons0 (l : List UInt8) : strip0 (0 :: l) = strip0 l := by simp [strip0]
theorem strip0_cons {b : UInt8} (h : b ≠ 0) (l : List UInt8) : strip0 (b :: l) = b :: l := by simp [strip0, h]
theorem byte_zero {b : UInt8} (h : b.toNat = 0) : b = 0 := by
  apply UInt8.toNat_inj.1; rw [h]; rfl

set_option maxHeartbeats 400000 in
theorem rCanon (s : ByteArray) (w : World) (hs : s.size ≤ 1000000) :
    Calls Tryz.prog 28 #[.string s] w fun e w' => e = .returned (.string (natS (sval s))) ∧ w = w' := by
  go_enter Tryz.func28, Tryz.ntmps28
  go_wp2_with fail
  go_loop [3] (fun t => ∃ k : Nat, k ≤ s.size ∧ t = .int .i64 (k : Int) ∧ Hid (strip0 (s.data.toList.drop k) = strip0 s.data.toList)) (fun t => s.size - (intOf t).toNat)
  case atStart => exact ⟨0, Nat.zero_le _, rfl, Lib.hid (by rw [List.drop_zero])⟩
  case round =>
    obtain ⟨k, hk, rfl, HS⟩ := hrel
    by_cases hlt : k < s.size
    · have hd := Lib.hid (drop_byte s hlt)
      by_cases hz : s[k].toNat = 0
      · have hb : ((s[k].toNat : Int) == 0) = true := by simpa using hz
        have HZ := Lib.hid hz
        clear hz
        go_wp2_with fail
        go_round
        case rel => exact ⟨k + 1, by omega, by go_num, Lib.hid (by have h1 := HS.out; rw [hd.out, byte_zero HZ.out, strip0_cons0] at h1; exact h1)⟩
        case measure => simp [intOf]; omega
      · have hb : ((s[k].toNat : Int) == 0) = false := by simpa using hz
        have HZ := Lib.hid hz
        clear hz
        go_wp2_with fail
        go_ret
        refine ⟨?_, rfl⟩
        have h1 := HS.out
        rw [hd.out, strip0_cons (fun e => HZ.out (by rw [e]; rfl)), ← hd.out] at h1
        rw [natS_sval, ← h1, ← ext_drop]
        rfl
    · have e : k = s.size := by omega
      subst e
      go_wp2_with fail
      go_ret
      refine ⟨?_, rfl⟩
      have h1 := HS.out
      rw [List.drop_of_length_le (by rw [Array.length_toList]; exact Nat.le_refl _)] at h1
      rw [natS_sval, ← h1]
      rfl

set_option maxHeartbeats 400000 in
theorem rRight (s : ByteArray) (w : World) (hs : s.size ≤ 1000000) :
    Calls Tryz.prog 37 #[.string s] w fun e w' => e = .returned (.bool (rightB s)) ∧ w = w' := by
  by_cases h0 : s.size = 0
  · have hl : s = ⟨#[]⟩ := by
      cases s with
      | mk d => simp [ByteArray.size] at h0; subst h0; rfl
    subst hl
    go_enter Tryz.func37, Tryz.ntmps37
    go_wp2_with fail
    go_ret
    exact ⟨rfl, rfl⟩
  · have hl0 : 0 < s.size := by omega
    have hb0 : ((s.size : Int) == 0) = false := by simpa using h0
    go_enter Tryz.func37, Tryz.ntmps37
    go_wp2_with fail
    go_ret
    refine ⟨congrArg (fun b => Ending.returned (Value.bool b)) ?_, rfl⟩
    have e : s.data.toList.head? = some s[0] := by
      rw [List.head?_eq_getElem?, List.getElem?_eq_getElem (by rw [Array.length_toList]; exact hl0)]
      rfl
    unfold rightB
    rw [e]
    rw [Bool.eq_iff_iff]
    simp [← UInt8.toNat_inj]

end Go.Proofs.YthiogjpjkdnbjaaGreatDoor
