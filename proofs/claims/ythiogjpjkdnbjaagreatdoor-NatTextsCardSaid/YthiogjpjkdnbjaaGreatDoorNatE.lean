/- divideDigit, shiftLeft, shiftRight: their contracts. -/
import Derived.Test.YthiogjpjkdnbjaaGreatDoorNatB
namespace Go.Proofs.YthiogjpjkdnbjaaGreatDoor
open Go.RowKit

set_option maxHeartbeats 400000 in
theorem divideDigit_any (A : Option Addr) (n c : Nat) (xs : List Nat) (y : Nat) (w : World) (h : Dig w A n c xs) (hn : n ≤ 1000000) (hy : 0 < y) (hy2 : y < 4294967296) :
    Calls Tryz.prog 56 #[.slice A n c, .int .u32 (y : Int)] w fun e w' => ∃ A' m c' zs, e = .returned (.tuple #[.slice A' m c', .int .u32 ((val xs % y : Nat) : Int)]) ∧ Dig w' A' m c' zs ∧ Trim zs ∧ val zs = val xs / y ∧ Below w.heap.size w w' := by
  have hmk := make_u32 n (by omega)
  go_enter Tryz.func56, Tryz.ntmps56
  go_wp2_with fail
  go_loopw [7, 8] (fun s7 s8 wr => ∃ (i r : Nat) (qs : List Nat), i ≤ n ∧ s8 = .int .i64 ((i : Int) - 1) ∧ s7 = .int .u64 (r : Int) ∧ r < y ∧ qs.length = n ∧ Lt32 qs ∧ (∀ j d : Nat, j < i → qs[j]? = some d → d = 0) ∧ Hid (val (xs.drop i) = val (qs.drop i) * y + r) ∧ Blk wr w.heap.size 52 (u32s qs) ∧ Below w.heap.size w wr) (fun _ s8 _ => (intOf s8 + 1).toNat)
  case atStart => exact ⟨n, 0, List.replicate n 0, Nat.le_refl _, rfl, rfl, hy, by simp, Lt32.zeros _, (fun j d _ hd => by rw [List.getElem?_replicate] at hd; split at hd <;> simp_all), by show _ = _; rw [List.drop_of_length_le (by rw [h.len]; omega), List.drop_of_length_le (by simp)]; simp [val], Blk.new _ _ _, (Below.refl _ _).alloc (Nat.le_refl _) _⟩
  case round =>
    obtain ⟨i, r, qs, hi, rfl, rfl, hr, hq, hlt, hz, HI, hbk, hb⟩ := hrel
    have HQ := Lib.hid hq
    have HZ := Lib.hid hz
    clear hz hq
    by_cases h0 : 0 < i
    · obtain ⟨b, o, x, rfl, hx, hxl, hxc⟩ := (h.below hb).get (k := i - 1) (by omega)
      have HX := Lib.hid hx
      clear hx
      have hzc : ∃ z : Nat, wr.cell? ⟨w.heap.size, i - 1, none⟩ = some (.int .u32 (z : Int)) := by
        have hl : i - 1 < qs.length := by rw [HQ.out]; omega
        exact ⟨_, hbk.u32 (List.getElem?_eq_getElem hl)⟩
      obtain ⟨z, hzc⟩ := hzc
      have hfz := hbk.frozen (i - 1)
      have hor := u64_or_hi r x (by omega) hxl
      have hql : (r * 4294967296 + x) / y < 4294967296 := by
        apply Nat.div_lt_of_lt_mul
        have : (r + 1) * 4294967296 ≤ y * 4294967296 := Nat.mul_le_mul_right _ hr
        omega
      have hrl : (r * 4294967296 + x) % y < y := Nat.mod_lt _ hy
      obtain ⟨q, hq⟩ : ∃ q, q = (r * 4294967296 + x) / y := ⟨_, rfl⟩
      obtain ⟨t, ht⟩ : ∃ t, t = (r * 4294967296 + x) % y := ⟨_, rfl⟩
      rw [← hq] at hql
      rw [← ht] at hrl
      have hq2 : ((r : Int) * 4294967296 + x) / y = (q : Int) := by rw [hq]; simp
      have ht2 : ((r : Int) * 4294967296 + x) % y = (t : Int) := by rw [ht]; simp
      have HQ2 := Lib.hid hq
      have HT2 := Lib.hid ht
      clear hq ht
      go_wp2_with fail
      go_roundw
      case rel =>
        have hl : i - 1 < qs.length := by rw [HQ.out]; omega
        refine ⟨i - 1, t, qs.set (i - 1) q, by omega, by go_num, by rw [ht2], hrl, by simp [HQ.out], hlt.set hql, (fun j d hj hd => ?_), ?_, hbk.put32 (i - 1) q, hb.setCell (Nat.le_refl _) _⟩
        · rw [List.getElem?_set_ne (by omega)] at hd
          exact HZ.out j d (by omega) hd
        · show _ = _
          rw [set_drop hl, drop_cons HX.out, val, val, show i - 1 + 1 = i by omega, HQ2.out, HT2.out]
          exact digit_step HI.out
      case measure => simp [intOf]; omega
    · obtain rfl : i = 0 := by omega
      have hdg := hbk.dig hlt (n := n) (c := n) HQ.out (Nat.le_refl _)
      go_wp2_with fail
      refine (trim_gives _ _ _ _ _ hdg (by omega)).mono ?_
      rintro e w' ⟨⟨A1, m1, c1, zs, rfl, hd1, ht1, hv1⟩, rfl⟩
      have HV1 := Lib.hid hv1
      clear hv1
      go_wp2_with fail
      go_ret2
      have e := HI.out
      rw [List.drop_zero, List.drop_zero] at e
      have e1 : val xs / y = val qs := by rw [e, Nat.mul_comm, Nat.mul_add_div hy, Nat.div_eq_of_lt hr]; omega
      have e2 : val xs % y = r := by rw [e, Nat.mul_comm, Nat.mul_add_mod, Nat.mod_eq_of_lt hr]
      refine ⟨_, _, _, _, ?_, hd1, ht1, by rw [HV1.out, e1], hb⟩
      rw [e2]
      rfl

set_option maxHeartbeats 400000 in
theorem shiftLeft_any (A : Option Addr) (n c : Nat) (xs : List Nat) (k : Nat) (w : World) (h : Dig w A n c xs) (hn : n ≤ 1000000) (hk : k ≤ 31) :
    Calls Tryz.prog 71 #[.slice A n c, .int .i64 (k : Int)] w fun e w' => ∃ zs, e = .returned (.slice (some ⟨w.heap.size, 0, none⟩) (n + 1) (n + 1)) ∧ Blk w' w.heap.size 52 (u32s zs) ∧ zs.length = n + 1 ∧ Lt32 zs ∧ val zs = val xs * 2 ^ k ∧ Below w.heap.size w w' := by
  have hmk := make_u32 (n + 1) (by omega)
  rw [show ((n + 1 : Nat) : Int) = (n : Int) + 1 by omega] at hmk
  go_enter Tryz.func71, Tryz.ntmps71
  go_wp2_with fail
  go_loopw [15] (fun s15 wr => ∃ (i cy : Nat) (f : List Nat), i ≤ n ∧ s15 = .int .i64 (i : Int) ∧ cy < 2 ^ k ∧ f.length = i ∧ Lt32 f ∧ Hid (val f + P32 i * cy = val (xs.take i) * 2 ^ k) ∧ Blk wr w.heap.size 52 (u32s (f ++ cy :: List.replicate (n - i) 0)) ∧ Below w.heap.size w wr) (fun s15 _ => n - (intOf s15).toNat)
  case atStart => exact ⟨0, 0, [], by omega, rfl, Nat.pow_pos (by omega), rfl, Lt32.nil, by simp [Hid, val], Blk.new _ _ _, (Below.refl _ _).alloc (Nat.le_refl _) _⟩
  case round =>
    obtain ⟨i, cy, f, hi, rfl, hcy, hf, hlt, HI, hbk, hb⟩ := hrel
    by_cases hin : i < n
    · obtain ⟨b, o, x, rfl, hx, hxl, hxc⟩ := (h.below hb).get hin
      have HX := Lib.hid hx
      have HF := Lib.hid hf
      have HC := Lib.hid hcy
      clear hx hf hcy
      have hz : wr.cell? ⟨w.heap.size, i, none⟩ = some (.int .u32 (cy : Int)) := hbk.u32 (by rw [List.getElem?_append_right (by rw [HF.out]; omega), HF.out]; simp)
      have hz2 : wr.cell? ⟨w.heap.size, i + 1, none⟩ = some (.int .u32 ((0 : Nat) : Int)) := hbk.u32 (by rw [List.getElem?_append_right (by rw [HF.out]; omega), HF.out, show i + 1 - i = 0 + 1 by omega, List.getElem?_cons_succ, List.getElem?_replicate, if_pos (by omega)])
      have hfz := hbk.frozen i
      have hfz2 := hbk.frozen (i + 1)
      have hp := pow_le k hk
      obtain ⟨t, ht⟩ : ∃ t, t = x * 2 ^ k := ⟨_, rfl⟩
      have htl : t < 18446744073709551616 := by
        have : x * 2 ^ k ≤ x * 2147483648 := Nat.mul_le_mul_left _ hp
        omega
      have hw : IntKind.u64.wrap ((x : Int) * 2 ^ k) = (t : Int) := by
        have e : ((x : Int) * 2 ^ k) = (t : Int) := by rw [ht]; simp
        rw [e, IntWalk.u64_in _ (by omega)]
      have hth : t / 4294967296 < 2 ^ k := by rw [ht]; exact shl_high hxl
      have hcl : cy + t % 4294967296 < 4294967296 := by
        rw [ht, shl_parts x k (by omega)]
        have h1 : x % 2 ^ (32 - k) + 1 ≤ 2 ^ (32 - k) := Nat.mod_lt _ (Nat.pow_pos (by omega))
        have h2 : (x % 2 ^ (32 - k) + 1) * 2 ^ k ≤ 2 ^ (32 - k) * 2 ^ k := Nat.mul_le_mul_right _ h1
        rw [← Nat.pow_add, show 32 - k + k = 32 by omega, Nat.add_mul, Nat.one_mul] at h2
        have := HC.out
        omega
      have hor : bits .or .u32 (cy : Int) ((t : Int) % 4294967296) = ((cy + t % 4294967296 : Nat) : Int) := by
        have e := u32_or_nat cy (t % 4294967296) (by omega) (by omega)
        rw [ht, shl_parts x k (by omega), or_lo _ _ _ HC.out, ← shl_parts x k (by omega), ← ht] at e
        rw [← e]
        rfl
      have HT := Lib.hid ht
      have HTH := Lib.hid hth
      clear ht hth
      obtain ⟨s, hs⟩ : ∃ s, s = cy + t % 4294967296 := ⟨_, rfl⟩
      rw [← hs] at hor hcl
      have HS := Lib.hid hs
      clear hs hp
      go_wp2_with fail
      go_roundw
      case rel =>
        refine ⟨i + 1, t / 4294967296, f ++ [s], by omega, by go_num, HTH.out, by simp [HF.out], hlt.snoc hcl, ?_, ?_, (hb.setCell (Nat.le_refl _) _).setCell (Nat.le_refl _) _⟩
        · have e := HI.out
          have e1 : P32 i * s + P32 (i + 1) * (t / 4294967296) = P32 i * cy + P32 i * x * 2 ^ k := by
            rw [HS.out, P32_succ, Nat.mul_comm 4294967296 (P32 i), Nat.mul_assoc, Nat.mul_assoc, ← HT.out, ← Nat.mul_add, ← Nat.mul_add]
            congr 1
            omega
          show _ = _
          rw [val_take_succ HX.out, val_snoc, HF.out, Nat.add_mul]
          omega
        · have e := (hbk.put32 i s).put32 (i + 1) (t / 4294967296)
          have e2 : ((f ++ cy :: List.replicate (n - i) 0).set i s).set (i + 1) (t / 4294967296) = (f ++ [s]) ++ (t / 4294967296) :: List.replicate (n - (i + 1)) 0 := by
            rw [← HF.out, set_front, HF.out, show n - i = (n - (i + 1)) + 1 by omega, List.replicate_succ]
            have := set_front (f ++ [s]) (List.replicate (n - (i + 1)) 0) 0 (t / 4294967296)
            rw [List.length_append, List.length_singleton, HF.out] at this
            rw [this, List.append_assoc]
            rfl
          rw [e2] at e
          rw [show ((t / 4294967296 : Nat) : Int) = (t : Int) / 4294967296 by omega] at e
          exact e
      case measure => simp [intOf]; omega
    · obtain rfl : n = i := by omega
      go_wp2_with fail
      go_ret
      have e := HI.out
      rw [val_take_all (by rw [h.len]; omega)] at e
      rw [Nat.sub_self, List.replicate_zero] at hbk
      refine ⟨f ++ [cy], rfl, hbk, by simp [hf], hlt.snoc ?_, by rw [val_snoc, hf]; exact e, hb⟩
      have := pow_le k hk
      omega

set_option maxHeartbeats 400000 in
theorem shiftRight_any (A : Option Addr) (n c : Nat) (xs : List Nat) (k : Nat) (w : World) (h : Dig w A n c xs) (hn : n ≤ 1000000) (hk : k ≤ 31) :
    Calls Tryz.prog 75 #[.slice A n c, .int .i64 (k : Int)] w fun e w' => ∃ A' c' zs, e = .returned (.slice A' n c') ∧ Dig w' A' n c' zs ∧ val zs = val xs / 2 ^ k ∧ Below w.heap.size w w' := by
  have hmk := make_u32 n (by omega)
  go_enter Tryz.func75, Tryz.ntmps75
  go_wp2_with fail
  go_loopw [13] (fun s13 wr => ∃ (i : Nat) (f : List Nat), i ≤ n ∧ s13 = .int .i64 (i : Int) ∧ f.length = i ∧ Lt32 f ∧ Hid (val f * 2 ^ k + (xs.getD 0 0) % 2 ^ k = val (xs.take i) + P32 i * (xs.getD i 0 % 2 ^ k)) ∧ Blk wr w.heap.size 52 (u32s (f ++ List.replicate (n - i) 0)) ∧ Below w.heap.size w wr) (fun s13 _ => n - (intOf s13).toNat)
  case atStart => exact ⟨0, [], by omega, rfl, rfl, Lt32.nil, by simp [Hid, val, P32], Blk.new _ _ _, (Below.refl _ _).alloc (Nat.le_refl _) _⟩
  case round =>
    obtain ⟨i, f, hi, rfl, hf, hlt, HI, hbk, hb⟩ := hrel
    by_cases hin : i < n
    · obtain ⟨b, o, x, rfl, hx, hxl, hxc⟩ := (h.below hb).get hin
      have HX := Lib.hid hx
      have HF := Lib.hid hf
      clear hx hf
      have hz : wr.cell? ⟨w.heap.size, i, none⟩ = some (.int .u32 ((0 : Nat) : Int)) := hbk.u32 (get_front HF.out (by omega))
      have hfz := hbk.frozen i
      by_cases hi2 : i + 1 < n
      · obtain ⟨b2, o2, y, hab, hy, hyl, hyc⟩ := (h.below hb).get hi2
        cases hab
        have HY := Lib.hid hy
        clear hy
        have hor := u64_or_lo y x hyl hxl
        go_wp2_with fail
        go_roundw
        case rel =>
          refine ⟨i + 1, f ++ [(x + y * 4294967296) / 2 ^ k % 4294967296], by omega, by go_num, by simp [HF.out], hlt.snoc (by omega), ?_, ?_, hb.setCell (Nat.le_refl _) _⟩
          · show _ = _
            exact shr_step HF.out HI.out HX.out (by rw [List.getD_eq_getElem?_getD, HY.out]; rfl) hk hxl
          · have e := hbk.put32 i ((x + y * 4294967296) / 2 ^ k % 4294967296)
            rw [set_zero HF.out (show n - i = (n - (i + 1)) + 1 by omega)] at e
            simpa using e
        case measure => simp [intOf]; omega
      · go_wp2_with fail
        go_roundw
        case rel =>
          refine ⟨i + 1, f ++ [(x + 0 * 4294967296) / 2 ^ k % 4294967296], by omega, by go_num, by simp [HF.out], hlt.snoc (by omega), ?_, ?_, hb.setCell (Nat.le_refl _) _⟩
          · show _ = _
            exact shr_step HF.out HI.out HX.out (by rw [List.getD_eq_getElem?_getD, List.getElem?_eq_none (by rw [h.len]; omega)]; rfl) hk hxl
          · have e := hbk.put32 i ((x + 0 * 4294967296) / 2 ^ k % 4294967296)
            rw [set_zero HF.out (show n - i = (n - (i + 1)) + 1 by omega)] at e
            simpa using e
        case measure => simp [intOf]; omega
    · obtain rfl : n = i := by omega
      rw [Nat.sub_self, List.replicate_zero, List.append_nil] at hbk
      go_wp2_with fail
      go_ret
      refine ⟨_, _, _, rfl, hbk.dig hlt hf (Nat.le_refl _), ?_, hb⟩
      have e := HI.out
      rw [val_take_all (by rw [h.len]; omega), List.getD_eq_getElem?_getD (i := n), List.getElem?_eq_none (by rw [h.len]; omega)] at e
      have hp : 0 < 2 ^ k := Nat.pow_pos (by omega)
      have hm := Nat.mod_lt (xs.getD 0 0) hp
      have e2 : val xs = 2 ^ k * val f + xs.getD 0 0 % 2 ^ k := by
        rw [Nat.mul_comm]
        simp at e ⊢
        omega
      rw [e2, Nat.mul_add_div hp, Nat.div_eq_of_lt hm]
      omega

end Go.Proofs.YthiogjpjkdnbjaaGreatDoor
