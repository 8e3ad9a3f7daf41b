/- multiply: its contract. -/
import Derived.Test.YthiogjpjkdnbjaaGreatDoorNatB
namespace Go.Proofs.YthiogjpjkdnbjaaGreatDoor
open Go.RowKit

theorem get_of_lt {xs : List Nat} {k : Nat} (h : k < xs.length) : ∃ d, xs[k]? = some d := ⟨_, List.getElem?_eq_getElem h⟩

set_option maxHeartbeats 1000000 in
theorem multiply_any (A : Option Addr) (n c : Nat) (xs : List Nat) (B : Option Addr) (m d : Nat) (ys : List Nat) (w : World) (h : Dig w A n c xs) (k : Dig w B m d ys) (hn : n ≤ 1000000) (hm : m ≤ 1000000) :
    Calls Tryz.prog 55 #[.slice A n c, .slice B m d] w fun e w' => Gives w' (val xs * val ys) e ∧ Below w.heap.size w w' := by
  have hmk := make_u32 (n + m) (by omega)
  rw [show ((n + m : Nat) : Int) = (n : Int) + (m : Int) by omega] at hmk
  go_enter Tryz.func55, Tryz.ntmps55
  go_wp2_with fail
  go_loopw [19] (fun s19 wr => ∃ (i : Nat) (zs : List Nat), i ≤ n ∧ s19 = .int .i64 (i : Int) ∧ zs.length = n + m ∧ Lt32 zs ∧ (∀ j z : Nat, i + m ≤ j → zs[j]? = some z → z = 0) ∧ Hid (val zs = val (xs.take i) * val ys) ∧ Blk wr w.heap.size 52 (u32s zs) ∧ Below w.heap.size w wr) (fun s19 _ => n - (intOf s19).toNat)
  case atStart => exact ⟨0, List.replicate (n + m) 0, by omega, rfl, by simp, Lt32.zeros _, (fun j z _ hz => by rw [List.getElem?_replicate] at hz; split at hz <;> simp_all), by show _ = _; rw [val_zeros]; simp [val], Blk.new _ _ _, (Below.refl _ _).alloc (Nat.le_refl _) _⟩
  case round =>
    obtain ⟨i, zs, hi, rfl, hzl, hlt, hz0, HI, hbk, hb⟩ := hrel
    have HZL := Lib.hid hzl
    have HZ0 := Lib.hid hz0
    clear hzl hz0
    by_cases hin : i < n
    · obtain ⟨b, o, x, rfl, hx, hxl, hxc⟩ := (h.below hb).get hin
      have HX := Lib.hid hx
      clear hx
      obtain ⟨wo, rfl⟩ : ∃ wo : World, wo = wr := ⟨_, rfl⟩
      go_wp2_with fail
      go_loopw [8, 26] (fun s8 s26 wr => ∃ (j cy : Nat) (qs : List Nat), j ≤ m ∧ s26 = .int .i64 (j : Int) ∧ s8 = .int .u64 (cy : Int) ∧ cy < 4294967296 ∧ qs.length = n + m ∧ Lt32 qs ∧ (∀ j z : Nat, i + m ≤ j → qs[j]? = some z → z = 0) ∧ Hid (val qs + P32 (i + j) * cy = val zs + P32 i * x * val (ys.take j)) ∧ Blk wr w.heap.size 52 (u32s qs) ∧ Below w.heap.size w wr) (fun _ s26 _ => m - (intOf s26).toNat)
      case atStart => exact ⟨0, 0, zs, by omega, rfl, rfl, by omega, HZL.out, hlt, HZ0.out, by simp [Hid, val], hbk, hb⟩
      case round =>
        obtain ⟨j, cy, qs, hj, rfl, rfl, hcy, hql, hqt, hq0, HJ, hbk2, hb2⟩ := hrel
        have HQL := Lib.hid hql
        have HQ0 := Lib.hid hq0
        clear hql hq0
        by_cases hjm : j < m
        · obtain ⟨b2, o2, y, rfl, hy, hyl, hyc⟩ := (k.below hb2).get hjm
          have HY := Lib.hid hy
          clear hy
          obtain ⟨z, hz⟩ := get_of_lt (xs := qs) (k := i + j) (by rw [HQL.out]; omega)
          have hzl := hqt _ _ hz
          have hzc := hbk2.u32 hz
          have hzf := hbk2.frozen (i + j)
          have HZ := Lib.hid hz
          clear hz
          have hxy : (x : Int) * y ≤ 18446744065119617025 := by
            have : x * y ≤ 4294967295 * 4294967295 := Nat.mul_le_mul (by omega) (by omega)
            have : ((x * y : Nat) : Int) ≤ 18446744065119617025 := by omega
            simpa using this
          have hxy0 : 0 ≤ (x : Int) * y := by
            have : 0 ≤ ((x * y : Nat) : Int) := by omega
            simpa using this
          go_wp2_with fail
          go_roundw
          case rel =>
            have hxyn : x * y ≤ 18446744065119617025 := Nat.mul_le_mul (show x ≤ 4294967295 by omega) (show y ≤ 4294967295 by omega)
            refine ⟨j + 1, (cy + (x * y + z)) / 4294967296, qs.set (i + j) ((cy + (x * y + z)) % 4294967296), by omega, by go_num, by simp, by omega, by simp [HQL.out], hqt.set (by omega), (fun j' z' hj' hz' => ?_), ?_, ?_, hb2.setCell (Nat.le_refl _) _⟩
            · rw [List.getElem?_set_ne (by omega)] at hz'
              exact HQ0.out j' z' hj' hz'
            · show _ = _
              rw [val_take_succ HY.out]
              exact mul_step HZ.out HJ.out
            · have e := hbk2.put32 (i + j) ((cy + (x * y + z)) % 4294967296)
              simpa using e
          case measure => simp [intOf]; omega
        · obtain rfl : m = j := by omega
          obtain ⟨z, hz⟩ := get_of_lt (xs := qs) (k := i + m) (by rw [HQL.out]; omega)
          obtain rfl : z = 0 := HQ0.out _ _ (Nat.le_refl _) hz
          have hzc := hbk2.u32 hz
          have hzf := hbk2.frozen (i + m)
          have HZ := Lib.hid hz
          clear hz
          go_wp2_with fail
          go_roundw
          case rel =>
            refine ⟨i + 1, qs.set (i + m) cy, by omega, by go_num, by simp [HQL.out], hqt.set hcy, (fun j' z' hj' hz' => ?_), ?_, hbk2.put32 _ _, hb2.setCell (Nat.le_refl _) _⟩
            · rw [List.getElem?_set_ne (by omega)] at hz'
              exact HQ0.out j' z' (by omega) hz'
            · have e := val_set HZ.out cy
              have e2 := HJ.out
              rw [val_take_all (by rw [k.len]; omega)] at e2
              show _ = _
              rw [val_take_succ HX.out, Nat.add_mul, ← HI.out]
              omega
          case measure => simp [intOf]; omega
    · obtain rfl : n = i := by omega
      have hdg := hbk.dig hlt (n := n + m) (c := n + m) HZL.out (Nat.le_refl _)
      go_wp2_with fail
      refine (trim_gives _ _ _ _ _ hdg (by omega)).mono ?_
      rintro e w' ⟨⟨A1, m1, c1, zs', rfl, hd1, ht1, hv1⟩, rfl⟩
      have HV1 := Lib.hid hv1
      clear hv1
      go_wp2_with fail
      go_ret
      refine ⟨⟨_, _, _, _, rfl, hd1, ht1, ?_⟩, hb⟩
      rw [HV1.out, HI.out, val_take_all (by rw [h.len]; omega)]

end Go.Proofs.YthiogjpjkdnbjaaGreatDoor
