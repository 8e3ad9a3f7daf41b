/- Joined by a program: NatJ, NatK, NatL. -/
import Derived.Test.YtebgmlbbilcbbaaGreatDoorNatTwo
import Derived.Test.YtebgmlbbilcbbaaGreatDoorShelf
import Derived.StillTailTactics
import Derived.Deep.DeepMust
import Derived.Test.YtebgmlbbilcbbaaGreatDoorNatOne
import Derived.Test.YtebgmlbbilcbbaaGreatDoorPlainAll
import Derived.BigRegion
namespace Go.Proofs.YtebgmlbbilcbbaaGreatDoor
open Go.RowKit

theorem bitLen_facts (x : Nat) (h0 : x ≠ 0) (h : x < 18446744073709551616) : 1 ≤ Lib.bitLen x ∧ 2 ^ (Lib.bitLen x - 1) ≤ x ∧ x < 2 ^ Lib.bitLen x := by
  induction x using Nat.strongRecOn with
  | ind x ih =>
    have e := Lib.bitLen_half x h0 h
    by_cases h1 : x / 2 = 0
    · obtain rfl : x = 1 := by omega
      exact ⟨by decide, by decide, by decide⟩
    · have i := ih (x / 2) (by omega) h1 (by omega)
      rw [e]
      obtain ⟨i1, i2, i3⟩ := i
      refine ⟨by omega, ?_, ?_⟩
      · obtain ⟨b, hb⟩ : ∃ b, Lib.bitLen (x / 2) = b + 1 := ⟨Lib.bitLen (x / 2) - 1, by omega⟩
        rw [hb] at i2 ⊢
        rw [show 1 + (b + 1) - 1 = b + 1 by omega, Nat.pow_succ]
        rw [show b + 1 - 1 = b by omega] at i2
        omega
      · rw [Nat.add_comm, Nat.pow_succ]
        omega

/-- How far a digit is shifted, so that its first bit is the first of 32. -/
theorem shift_facts (y : Nat) (h0 : y ≠ 0) (h : y < 4294967296) : ∃ s : Nat, s ≤ 31 ∧ (32 : Int) - (Lib.bitLen y : Int) = (s : Int) ∧ 2147483648 ≤ y * 2 ^ s ∧ (y + 1) * 2 ^ s ≤ 4294967296 := by
  obtain ⟨h1, h2, h3⟩ := bitLen_facts y h0 (by omega)
  have h4 := Lib.bitLen_le y 32 (by omega) h
  refine ⟨32 - Lib.bitLen y, by omega, by omega, ?_, ?_⟩
  · have : 2 ^ (Lib.bitLen y - 1) * 2 ^ (32 - Lib.bitLen y) ≤ y * 2 ^ (32 - Lib.bitLen y) := Nat.mul_le_mul_right _ h2
    rw [← Nat.pow_add, show Lib.bitLen y - 1 + (32 - Lib.bitLen y) = 31 by omega] at this
    exact this
  · have : (y + 1) * 2 ^ (32 - Lib.bitLen y) ≤ 2 ^ Lib.bitLen y * 2 ^ (32 - Lib.bitLen y) := Nat.mul_le_mul_right _ h3
    rw [← Nat.pow_add, show Lib.bitLen y + (32 - Lib.bitLen y) = 32 by omega] at this
    exact this

set_option maxRecDepth 100000 in
set_option maxHeartbeats 2000000 in
theorem divide_long (A : Option Addr) (N c : Nat) (xs : List Nat) (B : Option Addr) (n d : Nat) (ys : List Nat) (w : World) (h : Dig w A N c xs) (k : Dig w B n d ys) (hN : N ≤ 500000) (hN2 : 2 < N) (hn2 : 2 ≤ n) (tx : Trim xs) (ty : Trim ys) (hge : val ys ≤ val xs) :
    Calls Tryz.prog 164 #[.slice A N c, .slice B n d] w fun e w' => Divides w' (val xs / val ys) (val xs % val ys) e ∧ Below w.heap.size w w' := by
  have hnN : n ≤ N := by
    rcases Nat.lt_or_ge N n with h1 | h1
    · have := ty.lt_of_len h.lt (by rw [h.len, k.len]; exact h1)
      omega
    · exact h1
  have hcm : ∃ z : Int, 0 ≤ z ∧ cmpI (val xs) (val ys) = z := by
    rcases Nat.lt_or_ge (val ys) (val xs) with h1 | h1
    · exact ⟨1, by omega, cmpI_gt h1⟩
    · exact ⟨0, by omega, cmpI_eq (by omega)⟩
  obtain ⟨z, hz0, hz⟩ := hcm
  have hc := compare_any A N c xs B n d ys w h k (by omega) (by omega) tx ty
  rw [hz] at hc
  obtain ⟨b, o, y, rfl, hy, hyl, hyc⟩ := k.get (k := n - 1) (by omega)
  have hy0 : y ≠ 0 := by
    obtain ⟨d', hd', hne⟩ := ty (by rw [k.len]; omega)
    rw [k.len, hy] at hd'
    simp at hd'
    omega
  obtain ⟨s, hs31, hs, hs1, hs2⟩ := shift_facts y hy0 hyl
  have hnf := norm_facts (n := n - 1) (by rw [k.len]; omega) hy k.lt (Nat.pow_pos (by omega)) hs1 hs2
  rw [show n - 1 + 1 = n by omega] at hnf
  obtain ⟨hV1, hV2⟩ := hnf
  obtain ⟨V, hVe⟩ : ∃ V, V = val ys * 2 ^ s := ⟨_, rfl⟩
  rw [← hVe] at hV1 hV2
  have HC := Lib.hid hc
  have HVE := Lib.hid hVe
  have HS := Lib.hid hs
  have HV1 := Lib.hid hV1
  have HV2 := Lib.hid hV2
  have HGE := Lib.hid hge
  clear hc hz hVe hs hV1 hV2 hy hs1 hs2 hge
  have hzb : decide (z < 0) = false := by simp; omega
  have hNb : decide ((N : Int) ≤ 2) = false := by simp; omega
  have hn1 : ((n : Int) == 1) = false := by rw [beq_eq_false_iff_ne]; omega
  go_enter Tryz.func164, Tryz.ntmps164
  go_wp2_with fail
  refine HC.out.mono ?_
  rintro e w1 ⟨rfl, hb1⟩
  have h1 := h.below hb1
  have k1 := k.below hb1
  have hyc1 : w1.cell? ⟨b, o + (n - 1), none⟩ = some (.int .u32 (y : Int)) := (hb1.cell (p := ⟨b, o + (n - 1), none⟩) (block_lt_of_cell hyc)).trans hyc
  go_wp2_with fail
  refine (Tryz.bits_LeadingZeros32 (y : Int) _ (by omega) (by omega)).mono ?_
  rintro e w1' ⟨rfl, rfl⟩
  rw [Int.toNat_natCast, HS.out]
  go_wp2_with fail
  refine (shiftLeft_any _ _ _ _ s _ h1 (by omega) hs31).mono ?_
  rintro e w2 ⟨us, rfl, hbu, hul, hult, huv, hb2⟩
  have HUL := Lib.hid hul
  have HUV := Lib.hid huv
  clear hul huv
  have k2 := k1.below hb2
  go_wp2_with fail
  refine (shiftLeft_any _ _ _ _ s _ k2 (by omega) hs31).mono ?_
  rintro e w3 ⟨vs, rfl, hbv, hvl, hvlt, hvv, hb3⟩
  have hbu3 := hbu.below hb3 hbu.lt
  have hl3 := hbu.lt
  rw [← HVE.out] at hvv
  have HVL := Lib.hid hvl
  have HVV := Lib.hid hvv
  clear hvl hvv hbu
  have hmk := make_u32 (N - n + 1) (by omega)
  rw [show ((N - n + 1 : Nat) : Int) = (N : Int) - n + 1 by omega] at hmk
  go_wp2_with fail
  obtain ⟨v1, hv1, hv1p⟩ : ∃ v1, vs[n - 1]? = some v1 ∧ 0 < v1 := by
    obtain ⟨v1, hv1⟩ : ∃ v1, vs[n - 1]? = some v1 := ⟨_, List.getElem?_eq_getElem (by rw [HVL.out]; omega)⟩
    refine ⟨v1, hv1, ?_⟩
    rcases Nat.eq_zero_or_pos v1 with h0 | h0
    · exfalso
      subst h0
      have e := val_split hv1
      have e2 : val (vs.drop (n - 1 + 1)) = 0 := by
        rw [show n - 1 + 1 = n by omega]
        have := val_trim (xs := vs.drop n) (m := 0) (fun i d' _ hd' => by
          rw [List.getElem?_drop] at hd'
          exact zeros_of_val (by rw [HVV.out]; exact HV2.out) (n + i) d' (by omega) hd')
        rw [List.take_zero] at this
        exact this.symm
      rw [e2, HVV.out] at e
      have e3 := val_take_lt (m := n - 1) hvlt (by rw [HVL.out]; omega)
      have e4 := HV1.out
      have := P32_pos (n - 1)
      omega
    · exact h0
  have HPOS : Hid (∃ v1, vs[n - 1]? = some v1 ∧ 0 < v1) := ⟨v1, hv1, hv1p⟩
  clear hv1 hv1p v1
  have hVt : val (vs.take n) = V := by
    rw [← HVV.out]
    exact val_trim (fun i d' hi hd' => zeros_of_val (by rw [HVV.out]; exact HV2.out) i d' hi hd')
  have HVT := Lib.hid hVt
  clear hVt
  have hVp : 0 < V := by
    have := HV1.out
    have := P32_pos (n - 1)
    omega
  have htop : val (us.drop (N - n + 1)) < V := top_lt (N := N) (n := n - 1) HUV.out (by have := val_lt h.lt; rw [h.len] at this; exact this) hs31 (by omega) (by rw [HUL.out]; omega) HV1.out
  have HTOP := Lib.hid htop
  clear htop
  have hl1 := hbu3.lt
  have hl2 := hbv.lt
  go_loopw [14] (fun s14 wr => ∃ (j : Nat) (L Q : List Nat), j ≤ N - n + 1 ∧ s14 = .int .i64 ((j : Int) - 1) ∧ L.length = N + 1 ∧ Lt32 L ∧ Q.length = N - n + 1 ∧ Lt32 Q ∧ Hid (val L + P32 j * val (Q.drop j) * V = val us) ∧ Hid (val (L.drop j) < V) ∧
    Blk wr w1'.heap.size 140 (u32s L) ∧ Blk wr w2.heap.size 140 (u32s vs) ∧ Blk wr w3.heap.size 140 (u32s Q) ∧ Below w.heap.size w wr) (fun s14 _ => (intOf s14 + 1).toNat)
  case atStart =>
    refine ⟨N - n + 1, us, List.replicate (N - n + 1) 0, Nat.le_refl _, by go_num, HUL.out, hult, by simp, Lt32.zeros _, ?_, HTOP, hbu3.alloc _, hbv.alloc _, Blk.new _ _ _, ?_⟩
    · show _ = _
      rw [List.drop_of_length_le (by simp)]
      simp [val]
    · exact (below_then (below_then hb1 hb2) hb3).alloc (Nat.le_trans hb1.size (Nat.le_of_lt (Nat.lt_trans hl3 hl2))) _
  case round =>
    obtain ⟨j, L, Q, hj, rfl, hLl, hLt, hQl, hQt, HI, HR, hbL, hbV, hbQ, hb⟩ := hrel
    have HLL := Lib.hid hLl
    have HQL := Lib.hid hQl
    clear hLl hQl
    by_cases h0 : 0 < j
    · obtain ⟨i, rfl⟩ : ∃ i, j = i + 1 := ⟨j - 1, by omega⟩
      rw [show ((i + 1 : Nat) : Int) - 1 = (i : Int) by omega]
      obtain ⟨x, hx⟩ : ∃ x, L[i]? = some x := ⟨_, List.getElem?_eq_getElem (by rw [HLL.out]; omega)⟩
      have hW := window_val HR.out HV2.out
      have hWlt := window_lt HR.out hx (hLt _ _ hx)
      have hWr := window_rest HR.out HV2.out
      have HX := Lib.hid hx
      have HW := Lib.hid hW
      have HWL := Lib.hid hWlt
      have HWR := Lib.hid hWr
      clear hx hW hWlt hWr
      go_wp2_with fail
      rw [show i + n + 1 - i = n + 1 by omega]
      refine (estimate_any _ i n _ _ _ L vs wr hbL hLt (by rw [HLL.out]; omega) hbV hvlt HVL.out hn2 (by omega) HPOS.out (by rw [HW.out, HVT.out]; exact HWL.out)).mono ?_
      rintro e we ⟨t, rfl, ht1, ht2, ht3, kd, rfl⟩
      rw [HW.out, HVT.out] at ht1 ht2
      obtain ⟨q, hq⟩ : ∃ q, q = val (L.drop i) / V := ⟨_, rfl⟩
      rw [← hq] at ht1 ht2
      have HQ := Lib.hid hq
      clear hq
      have hbL2 : Blk (wr.drewN kd) w1'.heap.size 140 (u32s L) := hbL
      have hbV2 : Blk (wr.drewN kd) w2.heap.size 140 (u32s vs) := hbV
      have hta : ∀ (W : World) (cu cv : Nat), Blk W w1'.heap.size 140 (u32s L) → Blk W w2.heap.size 140 (u32s vs) → Calls Tryz.prog 194 #[.slice (some ⟨w1'.heap.size, i, none⟩) (n + 1) cu, .slice (some ⟨w2.heap.size, 0, none⟩) n cv, .int .u64 (t : Int)] W (Took W w1'.heap.size i n w2.heap.size t L vs) :=
        fun W cu cv hA hB => takeAway_any _ i n cu _ cv t L vs W hA hLt (by rw [HLL.out]; omega) hB hvlt (by omega) (by rw [HVL.out]; omega) (by omega) (by omega)
      have HTA := Lib.hid hta
      clear hta
      go_upto_region 17 with fail
      have e1 : IntKind.i64.wrap ((i : Int) + n) = (i : Int) + n := IntWalk.i64_in _ (by omega)
      have e2 : IntKind.i64.wrap ((i : Int) + n + 1) = (i : Int) + n + 1 := IntWalk.i64_in _ (by omega)
      have e3 : ((i : Int) + n + 1).toNat = i + n + 1 := by omega
      have e4 : (0 : Int) ≤ (i : Int) + n + 1 := by omega
      have e5 : (i : Int) + n + 1 ≤ (N : Int) + 1 := by omega
      have e6 : i + n + 1 - i = n + 1 := by omega
      have e7 : (i : Int) ≤ (i : Int) + n + 1 := by omega
      have e8 : ¬ N + 1 = i := by omega
      go_region_with (go_at_call 194; refine (HTA.out _ _ _ (by exact hbL2) (by exact hbV2)).mono ?_; rintro e wt ⟨us', ng, hng, hul', hult', hval', rfl, hbL3, hbV3, hgr3⟩)
      clear e1 e2 e3 e4 e5 e6 e7 e8
      rw [HVT.out, HW.out] at hval'
      have HVAL := Lib.hid hval'
      have HUL2 := Lib.hid hul'
      clear hval' hul'
      have hqB : q < 4294967296 := by omega
      obtain ⟨qc, hqc⟩ : ∃ qc, Q[i]? = some qc := ⟨_, List.getElem?_eq_getElem (by rw [HQL.out]; omega)⟩
      have HQC := Lib.hid hqc
      clear hqc
      have hgr4 : wr.grownBy wt (some w1'.heap.size) := ⟨hgr3.os, hgr3.tape, hgr3.output, hgr3.size, hgr3.block⟩
      have hbt : Below w.heap.size w wt := hb.grown hgr4 hb.size (fun k e => by cases e; exact hb1.size)
      have hbQ3 := hbQ.grown hgr4 (fun e => by injection e; omega)
      rcases (show ng = 0 ∨ ng = 1 by omega) with rfl | rfl
      · have hT := took_none (W := val (L.drop i)) hVp HVAL.out HQ.out ht1
        obtain ⟨rfl, hus⟩ := hT
        have HUS := Lib.hid hus
        clear hus
        have hqcell := hbQ3.u32 HQC.out
        have hqf := hbQ3.frozen i
        have hst := window_step HLL.out hLt HUL2.out hult' (by omega) (by rw [HQL.out]; omega) HWR.out HUS.out HQ.out hVp HI.out
        have HST := Lib.hid hst
        clear hst
        have hset : Below w.heap.size w (wt.setCell ⟨w3.heap.size, i, none⟩ (.int .u32 (t : Int))) := hbt.setCell (Nat.le_trans hb1.size (Nat.le_of_lt (Nat.lt_trans hl3 hl2))) _
        have HSET := Lib.hid hset
        clear hset
        go_wp2_with fail
        go_roundw
        case rel => exact ⟨i, _, _, by omega, by go_num, HST.out.1, HST.out.2.1, by rw [List.length_set]; exact HQL.out, hQt.set hqB, HST.out.2.2.1, HST.out.2.2.2, hbL3.far (by simp; omega) _, hbV3.far (by simp; omega) _, hbQ3.put32 i t, HSET.out⟩
        case measure => simp [intOf]
      · have e9 := HVAL.out
        rw [Nat.mul_one] at e9
        have HV9 := Lib.hid e9
        clear e9
        have hL2l : (L.take i ++ us' ++ L.drop (i + (n + 1))).length = N + 1 := by rw [List.length_append, List.length_append, List.length_take, List.length_drop, HUL2.out, HLL.out]; omega
        have HL2L := Lib.hid hL2l
        clear hL2l
        have hL2t : Lt32 (L.take i ++ us' ++ L.drop (i + (n + 1))) := ((hLt.take i).append hult').append (hLt.drop _)
        have ht0 : 1 ≤ t := by
          rcases Nat.eq_zero_or_pos t with h9 | h9
          · exfalso
            subst h9
            have := HV9.out
            have h8 := val_lt hult'
            rw [HUL2.out] at h8
            omega
          · exact h9
        have hpa : ∀ (W : World) (cu cv : Nat), Blk W w1'.heap.size 140 (u32s (L.take i ++ us' ++ L.drop (i + (n + 1)))) → Blk W w2.heap.size 140 (u32s vs) → Calls Tryz.prog 195 #[.slice (some ⟨w1'.heap.size, i, none⟩) (n + 1) cu, .slice (some ⟨w2.heap.size, 0, none⟩) n cv] W (Put W w1'.heap.size i n w2.heap.size (L.take i ++ us' ++ L.drop (i + (n + 1))) vs) :=
          fun W cu cv hA hB => putBack_any _ i n cu _ cv _ vs W hA hL2t (by rw [HL2L.out]; omega) hB hvlt (by omega) (by rw [HVL.out]; omega) (by omega)
        have HPA := Lib.hid hpa
        clear hpa
        go_upto_region 19 with fail
        have e1 : IntKind.i64.wrap ((i : Int) + n) = (i : Int) + n := IntWalk.i64_in _ (by omega)
        have e2 : IntKind.i64.wrap ((i : Int) + n + 1) = (i : Int) + n + 1 := IntWalk.i64_in _ (by omega)
        have e3 : ((i : Int) + n + 1).toNat = i + n + 1 := by omega
        have e4 : (0 : Int) ≤ (i : Int) + n + 1 := by omega
        have e5 : (i : Int) + n + 1 ≤ (N : Int) + 1 := by omega
        have e6 : i + n + 1 - i = n + 1 := by omega
        have e7 : (i : Int) ≤ (i : Int) + n + 1 := by omega
        have e8 : ¬ N + 1 = i := by omega
        go_region_with (go_at_call 195; refine (HPA.out _ _ _ (by exact hbL3) (by exact hbV3)).mono ?_; rintro e wp ⟨us2, cc, hul2, hult2, hval2, rfl, hbL5, hbV5, hgr5⟩)
        clear e1 e2 e3 e4 e5 e6 e7 e8
        obtain ⟨a1, a2, a3⟩ := window_again HLL.out HUL2.out (show i + n ≤ N by omega)
        rw [a1, HVT.out] at hval2
        rw [a2, a3] at hbL5
        have hVP : V < P32 (n + 1) := by
          have := HV2.out
          rw [P32_succ]
          omega
        have hu1 := val_lt hult'
        rw [HUL2.out] at hu1
        have hu2 := val_lt hult2
        rw [hul2] at hu2
        have hT := took_one hVp hVP HV9.out hu1 hu2 HQ.out ht1 ht2 hval2
        obtain ⟨htq, hus⟩ := hT
        have hst := window_step HLL.out hLt hul2 hult2 (show i + n ≤ N by omega) (by rw [HQL.out]; omega) HWR.out hus HQ.out hVp HI.out
        have HST := Lib.hid hst
        have hgr6 : wt.grownBy wp (some w1'.heap.size) := ⟨hgr5.os, hgr5.tape, hgr5.output, hgr5.size, hgr5.block⟩
        have hbp : Below w.heap.size w wp := hbt.grown hgr6 hbt.size (fun k e => by cases e; exact hb1.size)
        have hbQ5 := hbQ3.grown hgr6 (fun e => by injection e; omega)
        have hqcell := hbQ5.u32 HQC.out
        have hqf := hbQ5.frozen i
        have hset : Below w.heap.size w (wp.setCell ⟨w3.heap.size, i, none⟩ (.int .u32 (q : Int))) := hbp.setCell (Nat.le_trans hb1.size (Nat.le_of_lt (Nat.lt_trans hl3 hl2))) _
        have HSET := Lib.hid hset
        rw [show (t : Int) - 1 = (q : Int) by omega]
        clear a1 a2 a3 hval2 hVP hu1 hu2 htq hus hst hset hul2
        go_wp2_with fail
        go_roundw
        case rel => exact ⟨i, _, _, by omega, by go_num, HST.out.1, HST.out.2.1, by rw [List.length_set]; exact HQL.out, hQt.set hqB, HST.out.2.2.1, HST.out.2.2.2, hbL5.far (by simp; omega) _, hbV5.far (by simp; omega) _, hbQ5.put32 i q, HSET.out⟩
        case measure => simp [intOf]
    · obtain rfl : j = 0 := by omega
      rw [List.drop_zero] at HR
      have hqd := hbQ.dig hQt (n := N - n + 1) (c := N - n + 1) HQL.out (Nat.le_refl _)
      have hud := (hbL.dig hLt (n := N + 1) (c := N + 1) HLL.out (Nat.le_refl _)).take (m := n) (by omega)
      have hLv : val (L.take n) = val L := val_trim (fun i d' hi hd' => zeros_of_val (Nat.lt_trans HR.out HV2.out) i d' hi hd')
      have HLV := Lib.hid hLv
      clear hLv
      go_upto_region 21 with fail
      have htq : ∀ W, Below wr.heap.size wr W → Calls Tryz.prog 163 #[.slice (some ⟨w3.heap.size, 0, none⟩) (N - n + 1) (N - n + 1)] W fun e w' => Gives W (val Q) e ∧ W = w' := fun W hW => trim_gives _ _ _ _ W (hqd.below hW) (by omega)
      have HTQ := Lib.hid htq
      clear htq
      have hsr : ∀ W, Below wr.heap.size wr W → Calls Tryz.prog 196 #[.slice (some ⟨w1'.heap.size, 0, none⟩) n (N + 1), .int .i64 (s : Int)] W fun e w' => ∃ A' c' zs, e = .returned (.slice A' n c') ∧ Dig w' A' n c' zs ∧ val zs = val (L.take n) / 2 ^ s ∧ Below W.heap.size W w' := fun W hW => shiftRight_any _ n _ _ s W (hud.below hW) (by omega) hs31
      have HSR := Lib.hid hsr
      clear hsr
      have e1 : (0 : Int) ≤ (n : Int) := by omega
      have e2 : (n : Int) ≤ (N : Int) + 1 := by omega
      go_region_with (first
        | (go_at_call 196; (with_reducible refine (HSR.out _ ?_).mono ?_); exact (Below.refl _ _).drew; rintro e wsr ⟨Asr, csr, zsr, rfl, hdsr, hvsr, hbsr⟩; have HVSR := Lib.hid hvsr; clear hvsr)
        | (go_at_call 163; (with_reducible refine (HTQ.out _ ?_).mono ?_); (first | exact (Below.refl _ _).drew | exact below_then (Below.refl _ _).drew hbsr); rintro e wx ⟨⟨Aq, mq, cq, zq, rfl, hdq, htq, hvq⟩, rfl⟩; have HVQ := Lib.hid hvq; clear hvq)
        | (go_at_call 163; (with_reducible refine (trim_gives _ _ _ _ _ hdsr ?_).mono ?_); omega; rintro e wy ⟨⟨Ar, mr, cr, zr, rfl, hdr, htr, hvr⟩, rfl⟩; have HVR := Lib.hid hvr; clear hvr))
      all_goals (go_wp2_with fail; go_ret2)
      all_goals
        have e := HI.out
        have e' : val us = V * val Q + val L := by
          rw [← e, List.drop_zero, P32_zero, Nat.one_mul, Nat.mul_comm V]; omega
        rw [HUV.out] at e'
        have hd1 : val xs / val ys = val Q := by
          have := shifted_div (x := val xs) (y := val ys) (s := s)
          rw [← this.1, ← HVE.out, e', Nat.mul_add_div hVp, Nat.div_eq_of_lt HR.out, Nat.add_zero]
        have hd2 : val xs % val ys = val L / 2 ^ s := by
          have := shifted_div (x := val xs) (y := val ys) (s := s)
          have h3 := this.2
          rw [← HVE.out, e', Nat.mul_add_mod, Nat.mod_eq_of_lt HR.out] at h3
          rw [h3, Nat.mul_div_cancel _ (Nat.pow_pos (by omega))]
        refine ⟨⟨_, _, _, _, _, _, _, _, rfl, by first | exact hdq.below hbsr | exact hdq, htq, by rw [HVQ.out, hd1], hdr, htr, by rw [HVR.out, HVSR.out, HLV.out, hd2]⟩, below_then hb.drew hbsr⟩

/-- divide: the quotient and the rest. -/
theorem divide_any (A : Option Addr) (n c : Nat) (xs : List Nat) (B : Option Addr) (m d : Nat) (ys : List Nat) (w : World) (h : Dig w A n c xs) (k : Dig w B m d ys) (hn : n ≤ 500000) (hm : m ≤ 500000) (tx : Trim xs) (ty : Trim ys) (hpos : 0 < val ys) :
    Calls Tryz.prog 164 #[.slice A n c, .slice B m d] w fun e w' => Divides w' (val xs / val ys) (val xs % val ys) e ∧ Below w.heap.size w w' := by
  rcases Nat.lt_or_ge (val xs) (val ys) with h1 | h1
  · exact divide_lt A n c xs B m d ys w h k (by omega) (by omega) tx ty h1
  · rcases Nat.lt_or_ge 2 n with h2 | h2
    · rcases Nat.lt_or_ge 1 m with h3 | h3
      · exact divide_long A n c xs B m d ys w h k hn h2 h3 tx ty h1
      · have hl := k.len
        match ys, hl, k, ty, hpos with
        | [], _, _, _, hpos => simp [val] at hpos
        | [y], hl, k, ty, _ =>
          obtain rfl : m = 1 := by simpa using hl.symm
          exact divide_one A n c xs B d y w h k (by omega) h2 tx ty
        | _ :: _ :: _, hl, _, _, _ => simp at hl; omega
    · exact divide_small A n c xs B m d ys w h k h2 tx ty h1 hpos

end Go.Proofs.YtebgmlbbilcbbaaGreatDoor
namespace Go.Proofs.YtebgmlbbilcbbaaGreatDoor
open Go.RowKit

theorem trimLeftB_strip (l : List UInt8) : Lib.trimLeftB l 0 = strip0 l := rfl

set_option maxHeartbeats 400000 in
theorem strip_any (s : ByteArray) (w : World) :
    Calls Tryz.prog 173 #[.string s] w fun e w' => e = .returned (.string (natS (sval s))) ∧ w = w' := by
  have hc := Tryz.strings_TrimLeft_one s 0 (by decide) w
  rw [trimLeftB_strip, ← natS_sval] at hc
  have HC := Lib.hid hc
  clear hc
  go_enter Tryz.func173, Tryz.ntmps173
  go_wp2_with fail
  refine HC.out.mono ?_
  rintro e w' ⟨rfl, rfl⟩
  go_wp2_with fail
  go_ret
  exact ⟨rfl, rfl⟩

set_option maxHeartbeats 1000000 in
theorem digits_any (s : ByteArray) (w : World) (hs : s.size ≤ 1000000) :
    Calls Tryz.prog 133 #[.string s] w fun e w' => Gives w' (sval s) e ∧ Below w.heap.size w w' := by
  obtain ⟨m, hm⟩ : ∃ m, m = (s.size + 3) / 4 := ⟨_, rfl⟩
  have hmk := make_u32 m (by omega)
  have hm2 : ((s.size : Int) + 3) / 4 = (m : Int) := by omega
  have hm3 : s.size ≤ 4 * m := by omega
  have HM := Lib.hid hm
  clear hm
  go_enter Tryz.func133, Tryz.ntmps133
  go_wp2_with fail
  go_loopw [12] (fun s12 wr => ∃ (i : Nat) (zs : List Nat), i ≤ s.size ∧ s12 = .int .i64 (i : Int) ∧ zs.length = m ∧ Lt32 zs ∧ Hid (val zs = lv (s.data.toList.reverse.take i)) ∧ Blk wr w.heap.size 140 (u32s zs) ∧ Below w.heap.size w wr) (fun s12 _ => s.size - (intOf s12).toNat)
  case atStart => exact ⟨0, List.replicate m 0, by omega, rfl, by simp, Lt32.zeros _, by show _ = _; rw [val_zeros]; rfl, Blk.new _ _ _, (Below.refl _ _).alloc (Nat.le_refl _) _⟩
  case round =>
    obtain ⟨i, zs, hi, rfl, hzl, hlt, HI, hbk, hb⟩ := hrel
    have HZL := Lib.hid hzl
    clear hzl
    by_cases hin : i < s.size
    · obtain ⟨d, hd⟩ : ∃ d, zs[i / 4]? = some d := ⟨_, List.getElem?_eq_getElem (by rw [HZL.out]; omega)⟩
      have hdc := hbk.u32 hd
      have hdf := hbk.frozen (i / 4)
      have hdl := hlt _ _ hd
      have HD := Lib.hid hd
      clear hd
      have f1 : (0 : Int) ≤ (i : Int) / 4 := by omega
      have f2 : (i : Int) / 4 < (m : Int) := by omega
      obtain ⟨j, hj⟩ : ∃ j, j = s.size - 1 - i := ⟨_, rfl⟩
      have hj2 : (s.size : Int) - 1 - i = (j : Int) := by omega
      have hjl : j < s.size := by omega
      have hjl2 : (j : Int) < (s.size : Int) := by omega
      have hj0 : (0 : Int) ≤ (j : Int) := by omega
      have HJ := Lib.hid hj
      clear hj
      go_upto_region 5 with fail
      go_region
      have hr4 : i % 4 < 4 := by omega
      have hP := P8_cases (i % 4) hr4
      have hvl : val zs < P8 i := by
        rw [HI.out]
        have := lv_lt (s.data.toList.reverse.take i)
        rw [List.length_take, List.length_reverse, Array.length_toList, Nat.min_eq_left (show i ≤ s.data.size from hi)] at this
        exact this
      have hdP := digit_lt HD.out hvl
      have hbl := s[j].toNat_lt
      have hsum : d + s[j].toNat * P8 (i % 4) < 4294967296 := by
        have h1 : s[j].toNat * P8 (i % 4) ≤ 255 * P8 (i % 4) := Nat.mul_le_mul_right _ (by omega)
        omega
      have hval : bits BinOp.or IntKind.u32 (d : Int) ((s[j].toNat : Int) % 4294967296 * 2 ^ (i % 4 * 8) % 4294967296) = ((d + s[j].toNat * P8 (i % 4) : Nat) : Int) := by
        have e := u32_or_nat d (s[j].toNat * P8 (i % 4)) (by omega) (by omega)
        rw [P8_two, or_lo _ _ _ (by rw [← P8_two]; exact hdP), ← P8_two] at e
        rw [← e]
        congr 1
        have e2 : (s[j].toNat : Int) % 4294967296 = (s[j].toNat : Int) := by omega
        rw [e2, P8_two]
        have e3 : (s[j].toNat : Int) * 2 ^ (i % 4 * 8) = ((s[j].toNat * 2 ^ (i % 4 * 8) : Nat) : Int) := by simp
        rw [e3, ← P8_two]
        omega
      rw [hval]
      obtain ⟨D, hD⟩ : ∃ D, D = d + s[j].toNat * P8 (i % 4) := ⟨_, rfl⟩
      rw [← hD] at hsum ⊢
      have HDD := Lib.hid hD
      clear hD hval hP hdP hbl hvl
      go_wp2_with fail
      go_roundw
      case rel =>
        refine ⟨i + 1, zs.set (i / 4) D, by omega, by go_num, by simp [HZL.out], hlt.set hsum, ?_, hbk.put32 _ _, (hb.setCell (Nat.le_refl _) _).drew⟩
        show _ = _
        rw [HDD.out, digit_put HD.out, lv_take_succ (rev_byte s HJ.out hin hjl), HI.out]
      case measure => simp [intOf]; omega
    · obtain rfl : i = s.size := by omega
      have hdg := hbk.dig hlt (n := m) (c := m) HZL.out (Nat.le_refl _)
      go_wp2_with fail
      refine (trim_gives _ _ _ _ _ hdg (by have := HM.out; omega)).mono ?_
      rintro e w' ⟨⟨A1, m1, c1, zs', rfl, hd1, ht1, hv1⟩, rfl⟩
      have HV1 := Lib.hid hv1
      clear hv1
      go_wp2_with fail
      go_ret
      refine ⟨⟨_, _, _, _, rfl, hd1, ht1, ?_⟩, hb⟩
      rw [HV1.out, HI.out, List.take_of_length_le (by rw [List.length_reverse, Array.length_toList]; exact Nat.le_refl _)]
      rfl

theorem info_u8 : (Tryz.prog.info? 5).map (fun i => (i.zero, i.size, i.bytes)) = some (some (.int .u8 0), 1, 1) := by kernel_rfl

/-- Cells that hold bytes. -/
def u8s (l : List UInt8) : Array Value := (l.map fun b : UInt8 => Value.int .u8 (b.toNat : Int)).toArray
theorem u8s_get {l : List UInt8} {i : Nat} {b : UInt8} (h : l[i]? = some b) : (u8s l)[i]? = some (.int .u8 (b.toNat : Int)) := by simp [u8s, h]
theorem u8s_set (l : List UInt8) (i : Nat) (b : UInt8) : (u8s l).setIfInBounds i (.int .u8 (b.toNat : Int)) = u8s (l.set i b) := by simp [u8s, List.map_set]
theorem u8s_made (n : Nat) : madeCells #[.int .u8 0] n = u8s (List.replicate n 0) := by
  apply Array.toList_inj.1
  rw [toList_madeCells_one]
  simp [u8s]
theorem Blk.u8 {w : World} {g : Nat} {t : TypeId} {l : List UInt8} (h : Blk w g t (u8s l)) {i : Nat} {b : UInt8} (hd : l[i]? = some b) : w.cell? ⟨g, i, none⟩ = some (.int .u8 (b.toNat : Int)) := (h.cell i).trans (u8s_get hd)
theorem Blk.put8 {w : World} {g : Nat} {t : TypeId} {l : List UInt8} (h : Blk w g t (u8s l)) (i : Nat) (b : UInt8) : Blk (w.setCell ⟨g, i, none⟩ (.int .u8 (b.toNat : Int))) g t (u8s (l.set i b)) := by
  have := h.set_ i (.int .u8 (b.toNat : Int))
  rwa [u8s_set] at this

theorem make_u8 (n : Nat) (hn : n ≤ 100000000) (w : World) :
    (Instr.makeSlice 22 (.int .i64 (n : Int)) (.int .i64 (n : Int))).run Tryz.prog w = .ok (.slice (some ⟨w.heap.size, 0, none⟩) n n) (w.alloc (.cells (u8s (List.replicate n 0)) 5)) := by
  rw [← u8s_made]
  exact run_make_row' 22 5 (.int .u8 0) 1 Tryz.underlying22 info_u8 rfl .i64 .i64 n (by omega) (by omega) w

theorem push_all : ∀ (l : List UInt8) (s : ByteArray), (l.map fun b : UInt8 => (b.toNat : Int)).foldl (fun r n => r.push (UInt8.ofNat n.toNat)) s = ⟨(s.data.toList ++ l).toArray⟩
  | [], s => by simp
  | b :: t, s => by
    rw [List.map_cons, List.foldl_cons, push_all t]
    simp

/-- string(b): the bytes of a block. -/
theorem run_bytes_str (w : World) (g n cap : Nat) (l : List UInt8) (h : Blk w g 5 (u8s l)) (hl : l.length = n) :
    (convert 22 9 (.slice (some ⟨g, 0, none⟩) n cap)).run Tryz.prog w = .ok (.string ⟨l.toArray⟩) w := by
  rw [run_convert_bytes_string w 22 9 5 _ _ _ Tryz.underlying22 Tryz.underlying5 Tryz.underlying9]
  have hld := run_loadCells_list (P := Tryz.prog) w ⟨g, 0, none⟩ ((l.map fun b : UInt8 => (b.toNat : Int)).map (Value.int .u8)) (fun j v hv => by
    rw [List.map_map, List.getElem?_map] at hv
    obtain ⟨b, hb, rfl⟩ := Option.map_eq_some_iff.1 hv
    rw [add_addr, Nat.zero_add]
    exact h.u8 hb)
  rw [List.length_map, List.length_map, hl] at hld
  rw [run_bytesToString w _ n cap _ hld, push_all]
  simp

set_option maxHeartbeats 1000000 in
theorem number_any (A : Option Addr) (n c : Nat) (xs : List Nat) (w : World) (h : Dig w A n c xs) (hn : n ≤ 1000000) :
    Calls Tryz.prog 147 #[.slice A n c] w fun e w' => e = .returned (.string (natS (val xs))) ∧ Below w.heap.size w w' := by
  have hmk := make_u8 (4 * n) (by omega)
  rw [show ((4 * n : Nat) : Int) = 4 * (n : Int) by omega] at hmk
  go_enter Tryz.func147, Tryz.ntmps147
  go_wp2_with fail
  go_loopw [11] (fun s11 wr => ∃ (i : Nat) (bs : List UInt8), i ≤ 4 * n ∧ s11 = .int .i64 (i : Int) ∧ bs.length = i ∧ Hid (bv bs = val xs % P8 i) ∧ Blk wr w.heap.size 5 (u8s (List.replicate (4 * n - i) 0 ++ bs)) ∧ Below w.heap.size w wr) (fun s11 _ => 4 * n - (intOf s11).toNat)
  case atStart => exact ⟨0, [], by omega, rfl, rfl, by show _ = _; rw [P8_zero, Nat.mod_one]; rfl, by simpa using Blk.new _ _ _, (Below.refl _ _).alloc (Nat.le_refl _) _⟩
  case round =>
    obtain ⟨i, bs, hi, rfl, hbl, HI, hbk, hb⟩ := hrel
    have HBL := Lib.hid hbl
    clear hbl
    by_cases hin : i < 4 * n
    · obtain ⟨b, o, x, rfl, hx, hxl, hxc⟩ := (h.below hb).get (k := i / 4) (by omega)
      have HX := Lib.hid hx
      clear hx
      obtain ⟨j, hj⟩ : ∃ j, j = 4 * n - 1 - i := ⟨_, rfl⟩
      have hj2 : 4 * (n : Int) - 1 - i = (j : Int) := by omega
      have hjl : (j : Int) < 4 * (n : Int) := by omega
      have hj0 : (0 : Int) ≤ (j : Int) := by omega
      have hcell : wr.cell? ⟨w.heap.size, j, none⟩ = some (.int .u8 (((0 : UInt8).toNat : Nat) : Int)) := hbk.u8 (by rw [List.getElem?_append_left (by simp; omega), List.getElem?_replicate, if_pos (by omega)])
      have hfz := hbk.frozen j
      have HJ := Lib.hid hj
      clear hj
      go_wp2_with fail
      go_roundw
      case rel =>
        have hxb : x / P8 (i % 4) % 256 < 256 := Nat.mod_lt _ (by omega)
        refine ⟨i + 1, UInt8.ofNat (x / P8 (i % 4) % 256) :: bs, by omega, by go_num, by simp [HBL.out], ?_, ?_, hb.setCell (Nat.le_refl _) _⟩
        · show _ = _
          rw [bv_cons, HBL.out, HI.out, mod_step, byte_of HX.out h.lt, UInt8.toNat_ofNat', Nat.mod_eq_of_lt (show x / P8 (i % 4) % 256 < 2 ^ 8 from hxb), Nat.mul_comm]
          omega
        · have e := hbk.put8 j (UInt8.ofNat (x / P8 (i % 4) % 256))
          have e2 : (List.replicate (4 * n - i) (0 : UInt8) ++ bs).set j (UInt8.ofNat (x / P8 (i % 4) % 256)) = List.replicate (4 * n - (i + 1)) 0 ++ UInt8.ofNat (x / P8 (i % 4) % 256) :: bs := by
            rw [show 4 * n - i = (4 * n - (i + 1)) + 1 by omega, List.replicate_succ', List.append_assoc, List.singleton_append, show j = (List.replicate (4 * n - (i + 1)) (0 : UInt8)).length by rw [List.length_replicate, HJ.out]; omega, List.set_append_right _ _ (Nat.le_refl _), Nat.sub_self]
            simp
          rw [e2, UInt8.toNat_ofNat', Nat.mod_eq_of_lt (show x / P8 (i % 4) % 256 < 2 ^ 8 from hxb)] at e
          have e3 : ((x / P8 (i % 4) % 256 : Nat) : Int) = (x : Int) / 2 ^ (i % 4 * 8) % 256 := by rw [P8_two]; simp
          rw [e3] at e
          exact e
      case measure => simp [intOf]; omega
    · obtain rfl : i = 4 * n := by omega
      rw [Nat.sub_self, List.replicate_zero, List.nil_append] at hbk
      have hcv := run_bytes_str wr w.heap.size (4 * n) (4 * n) bs hbk HBL.out
      go_wp2_with fail
      refine (strip_any _ _).mono ?_
      rintro e w' ⟨rfl, rfl⟩
      go_wp2_with fail
      go_ret
      have e : sval ⟨bs.toArray⟩ = val xs := by
        have h1 := val_lt h.lt
        rw [h.len, P32_P8] at h1
        show bv bs.toArray.toList = _
        rw [List.toList_toArray, HI.out, Nat.mod_eq_of_lt h1]
      rw [e]
      exact ⟨rfl, hb⟩

end Go.Proofs.YtebgmlbbilcbbaaGreatDoor
namespace Go.Proofs.YtebgmlbbilcbbaaGreatDoor
open Go.RowKit

theorem P8_le_P32 (k : Nat) : P8 k ≤ P32 k := by rw [P32_P8]; exact Nat.pow_le_pow_right (by omega) (by omega)

theorem Dig.few {w : World} {A : Option Addr} {m c k : Nat} {zs : List Nat} (h : Dig w A m c zs) (ht : Trim zs) (hv : val zs < P8 k) : m ≤ k := by
  rw [← h.len]
  exact ht.len_le (Nat.lt_of_lt_of_le hv (P8_le_P32 k))

theorem few {w : World} {A : Option Addr} {m c : Nat} {zs : List Nat} {s : ByteArray} (h : Dig w A m c zs) (ht : Trim zs) (hv : val zs = sval s) : m ≤ s.size := h.few ht (by rw [hv]; exact sval_lt s)

set_option maxHeartbeats 400000 in
theorem Right_any (s : ByteArray) (w : World) (hs : s.size ≤ 100000) :
    Calls Tryz.prog 138 #[.string s] w fun e w' => e = .returned (.bool (rightB s)) ∧ w = w' := by
  by_cases h0 : s.size = 0
  · have hl : s = ⟨#[]⟩ := by
      cases s with
      | mk d => simp [ByteArray.size] at h0; subst h0; rfl
    subst hl
    go_enter Tryz.func138, Tryz.ntmps138
    go_wp2_with fail
    go_ret
    exact ⟨rfl, rfl⟩
  · have hl0 : 0 < s.size := by omega
    have hne : ¬ s.toList = [] := by rw [ByteArray.toList_eq]; intro e; have := congrArg List.length e; rw [Array.length_toList] at this; exact h0 this
    have hemp : s.toList.isEmpty = false := by simpa using hne
    go_enter Tryz.func138, Tryz.ntmps138
    go_wp2_with fail
    go_ret
    refine ⟨congrArg (fun b => Ending.returned (Value.bool b)) ?_, rfl⟩
    have e : s.data.toList.head? = some s[0] := by
      rw [List.head?_eq_getElem?, List.getElem?_eq_getElem (by rw [Array.length_toList]; exact hl0)]
      rfl
    unfold rightB
    rw [e]
    rw [Bool.eq_iff_iff]
    simp [← UInt8.toNat_inj]

set_option maxHeartbeats 400000 in
theorem Cmp_any (a b : ByteArray) (w : World) (ha : a.size ≤ 100000) (hb : b.size ≤ 100000) :
    Calls Tryz.prog 76 #[.string a, .string b] w fun e w' => e = .returned (.int .i64 (cmpI (sval a) (sval b))) ∧ Below w.heap.size w w' := by
  go_enter Tryz.func76, Tryz.ntmps76
  go_wp2_with fail
  refine (digits_any a _ (by omega)).mono ?_
  rintro e w1 ⟨⟨A1, m1, c1, z1, rfl, hd1, ht1, hv1⟩, hb1⟩
  have hf1 := few hd1 ht1 hv1
  have HV1 := Lib.hid hv1
  clear hv1
  go_wp2_with fail
  refine (digits_any b _ (by omega)).mono ?_
  rintro e w2 ⟨⟨A2, m2, c2, z2, rfl, hd2, ht2, hv2⟩, hb2⟩
  have hf2 := few hd2 ht2 hv2
  have HV2 := Lib.hid hv2
  clear hv2
  go_wp2_with fail
  refine (compare_any _ _ _ _ _ _ _ _ _ (hd1.below hb2) hd2 (by omega) (by omega) ht1 ht2).mono ?_
  rintro e w3 ⟨rfl, hb3⟩
  rw [HV1.out, HV2.out]
  go_wp2_with fail
  go_ret
  exact ⟨rfl, below_then (below_then hb1 hb2) hb3⟩

set_option maxHeartbeats 400000 in
theorem Mul_any (a b : ByteArray) (w : World) (ha : a.size ≤ 100000) (hb : b.size ≤ 100000) :
    Calls Tryz.prog 93 #[.string a, .string b] w fun e w' => e = .returned (.string (natS (sval a * sval b))) ∧ Below w.heap.size w w' := by
  go_enter Tryz.func93, Tryz.ntmps93
  go_wp2_with fail
  refine (digits_any a _ (by omega)).mono ?_
  rintro e w1 ⟨⟨A1, m1, c1, z1, rfl, hd1, ht1, hv1⟩, hb1⟩
  have hf1 := few hd1 ht1 hv1
  have HV1 := Lib.hid hv1
  clear hv1
  go_wp2_with fail
  refine (digits_any b _ (by omega)).mono ?_
  rintro e w2 ⟨⟨A2, m2, c2, z2, rfl, hd2, ht2, hv2⟩, hb2⟩
  have hf2 := few hd2 ht2 hv2
  have HV2 := Lib.hid hv2
  clear hv2
  go_wp2_with fail
  refine (multiply_any _ _ _ _ _ _ _ _ _ (hd1.below hb2) hd2 (by omega) (by omega)).mono ?_
  rintro e w3 ⟨⟨A3, m3, c3, z3, rfl, hd3, ht3, hv3⟩, hb3⟩
  rw [HV1.out, HV2.out] at hv3
  have hf3 : m3 ≤ a.size + b.size := hd3.few ht3 (by
    rw [hv3, P8_add]
    exact Nat.mul_lt_mul'' (sval_lt a) (sval_lt b))
  have HV3 := Lib.hid hv3
  clear hv3
  go_wp2_with fail
  refine (number_any _ _ _ _ _ hd3 (by omega)).mono ?_
  rintro e w4 ⟨rfl, hb4⟩
  rw [HV3.out]
  go_wp2_with fail
  go_ret
  exact ⟨rfl, below_then (below_then (below_then hb1 hb2) hb3) hb4⟩

set_option maxHeartbeats 400000 in
theorem Quo_any (a b : ByteArray) (w : World) (ha : a.size ≤ 100000) (hb : b.size ≤ 100000) :
    Calls Tryz.prog 134 #[.string a, .string b] w fun e w' => e = .returned (quoRes (sval a) (sval b)) ∧ Below w.heap.size w w' := by
  go_enter Tryz.func134, Tryz.ntmps134
  go_wp2_with fail
  refine (digits_any b _ (by omega)).mono ?_
  rintro e w1 ⟨⟨A2, m2, c2, z2, rfl, hd2, ht2, hv2⟩, hb1⟩
  have hf2 := few hd2 ht2 hv2
  by_cases h0 : m2 = 0
  · subst h0
    have e0 : sval b = 0 := by
      rw [← hv2, List.eq_nil_of_length_eq_zero hd2.len]; rfl
    have H0 := Lib.hid e0
    clear e0 hv2
    go_wp2_with fail
    go_ret3
    exact ⟨by unfold quoRes; rw [if_pos H0.out]; rfl, hb1⟩
  · have hp : 0 < val z2 := by
      have := ht2.ge (by rw [hd2.len]; omega)
      have := P32_pos (z2.length - 1)
      omega
    have hbz : ((m2 : Int) == 0) = false := by rw [beq_eq_false_iff_ne]; omega
    have HV2 := Lib.hid hv2
    have HP := Lib.hid hp
    clear hv2 hp
    go_wp2_with fail
    refine (digits_any a _ (by omega)).mono ?_
    rintro e w2 ⟨⟨A1, m1, c1, z1, rfl, hd1, ht1, hv1⟩, hb2⟩
    have hf1 := few hd1 ht1 hv1
    have HV1 := Lib.hid hv1
    clear hv1
    go_wp2_with fail
    refine (divide_any _ _ _ _ _ _ _ _ _ hd1 (hd2.below hb2) (by omega) (by omega) ht1 ht2 HP.out).mono ?_
    rintro e w3 ⟨⟨A3, m3, c3, q1, A4, m4, c4, r1, rfl, hd3, ht3, hv3, hd4, ht4, hv4⟩, hb3⟩
    rw [HV1.out, HV2.out] at hv3 hv4
    have hf3 : m3 ≤ a.size := hd3.few ht3 (by
      rw [hv3]
      have := sval_lt a
      have := Nat.div_le_self (sval a) (sval b)
      omega)
    have hf4 : m4 ≤ a.size := hd4.few ht4 (by
      rw [hv4]
      have := sval_lt a
      have := Nat.mod_le (sval a) (sval b)
      omega)
    have HV3 := Lib.hid hv3
    have HV4 := Lib.hid hv4
    clear hv3 hv4
    go_wp2_with fail
    refine (number_any _ _ _ _ _ hd3 (by omega)).mono ?_
    rintro e w4 ⟨rfl, hb4⟩
    rw [HV3.out]
    go_wp2_with fail
    refine (number_any _ _ _ _ _ (hd4.below hb4) (by omega)).mono ?_
    rintro e w5 ⟨rfl, hb5⟩
    rw [HV4.out]
    go_wp2_with fail
    go_ret3
    exact ⟨by unfold quoRes; rw [if_neg (by rw [← HV2.out]; have := HP.out; omega)]; rfl, below_then (below_then (below_then (below_then hb1 hb2) hb3) hb4) hb5⟩

set_option maxHeartbeats 400000 in
theorem Bits_any (s : ByteArray) (w : World) (hs : s.size ≤ 100000) :
    Calls Tryz.prog 201 #[.string s] w fun e w' => e = .returned (.int .i64 (bitsN (sval s) : Int)) ∧ w = w' := by
  go_enter Tryz.func201, Tryz.ntmps201
  go_wp2_with fail
  refine (strip_any s _).mono ?_
  rintro e w1 ⟨rfl, rfl⟩
  have hsz : (natS (sval s)).size ≤ s.size := natS_size (sval_lt s)
  have hcan := nb_canon (sval s)
  have hval := sval_natS (sval s)
  have hdat : (natS (sval s)).data.toList = nb (sval s) := by simp [natS]
  obtain ⟨t, ht⟩ : ∃ t, t = natS (sval s) := ⟨_, rfl⟩
  rw [← ht] at hsz hval hdat ⊢
  rw [← hdat] at hcan
  have HV := Lib.hid hval
  have HC := Lib.hid hcan
  clear ht hval hcan hdat
  by_cases h0 : t.size = 0
  · have hl : t = ⟨#[]⟩ := by
      cases t with
      | mk d => simp [ByteArray.size] at h0; subst h0; rfl
    subst hl
    clear h0
    go_wp2_with fail
    go_ret
    refine ⟨?_, rfl⟩
    rw [← HV.out]
    rfl
  · have hl0 : 0 < t.size := by omega
    have hne : ¬ t.toList = [] := by rw [ByteArray.toList_eq]; intro e; have := congrArg List.length e; rw [Array.length_toList] at this; exact h0 this
    have hemp : t.toList.isEmpty = false := by simpa using hne
    go_wp2_with fail
    have hb1 := t[0].toNat_lt
    refine (Tryz.bits_Len8 _ _ (by omega) (by omega)).mono ?_
    rintro e w2 ⟨rfl, rfl⟩
    have hlist : t.data.toList = t[0] :: t.data.toList.tail := by
      have e1 : t.data.toList ≠ [] := by rw [← ByteArray.toList_eq]; exact hne
      rw [← List.cons_head_tail e1]
      congr 1
      rw [List.head_eq_getElem]
      rfl
    have hb0 : t[0].toNat ≠ 0 := by
      have e1 : t.data.toList ≠ [] := by rw [← ByteArray.toList_eq]; exact hne
      have e2 := HC.out e1
      intro e3
      apply e2
      rw [← UInt8.toNat_inj]
      rw [List.head_eq_getElem]
      exact e3
    obtain ⟨i1, i2, i3⟩ := bitLen_facts t[0].toNat hb0 (by omega)
    have htl : t.data.toList.tail.length = t.size - 1 := by rw [List.length_tail, Array.length_toList]; rfl
    have hbits : bitsN (sval s) = 8 * (t.size - 1) + Lib.bitLen t[0].toNat := by
      rw [← HV.out]
      show bitsN (bv t.data.toList) = _
      obtain ⟨k, hk⟩ : ∃ k, Lib.bitLen t[0].toNat = k + 1 := ⟨Lib.bitLen t[0].toNat - 1, by omega⟩
      rw [hlist, hk, bitsN_cons (k := k) (by rw [hk] at i2; simpa using i2) (by rw [hk] at i3; exact i3), htl]
    have hbl8 := Lib.bitLen_le t[0].toNat 8 (by omega) (by omega)
    rw [Int.toNat_natCast]
    obtain ⟨k, hk⟩ : ∃ k, k = Lib.bitLen t[0].toNat := ⟨_, rfl⟩
    rw [← hk] at hbits hbl8 ⊢
    have HB := Lib.hid hbits
    clear hbits hlist hb0 htl i1 i2 i3 hk
    go_wp2_with fail
    go_ret
    refine ⟨?_, rfl⟩
    rw [HB.out]
    exact congrArg (fun z => Ending.returned (Value.int IntKind.i64 z)) (by omega)

end Go.Proofs.YtebgmlbbilcbbaaGreatDoor
