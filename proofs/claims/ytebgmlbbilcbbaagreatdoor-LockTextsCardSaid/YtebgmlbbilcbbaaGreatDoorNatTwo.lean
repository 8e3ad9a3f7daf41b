/- Joined by a program: NatF, NatG, NatH, Defs, NatI. -/
import Derived.Test.YtebgmlbbilcbbaaGreatDoorNatOne
import Derived.Deep.QuietTactic
import Derived.BigQuiet
import Derived.WalkMore
import Derived.Deep.DeepCutAuto
import Derived.Test.YtebgmlbbilcbbaaGreatDoorPlainAll
import Derived.Deep.RegionWith
namespace Go.Proofs.YtebgmlbbilcbbaaGreatDoor
open Go.RowKit

theorem get_of_lt {xs : List Nat} {k : Nat} (h : k < xs.length) : ∃ d, xs[k]? = some d := ⟨_, List.getElem?_eq_getElem h⟩

set_option maxHeartbeats 1000000 in
theorem multiply_any (A : Option Addr) (n c : Nat) (xs : List Nat) (B : Option Addr) (m d : Nat) (ys : List Nat) (w : World) (h : Dig w A n c xs) (k : Dig w B m d ys) (hn : n ≤ 1000000) (hm : m ≤ 1000000) :
    Calls Tryz.prog 148 #[.slice A n c, .slice B m d] w fun e w' => Gives w' (val xs * val ys) e ∧ Below w.heap.size w w' := by
  have hmk := make_u32 (n + m) (by omega)
  rw [show ((n + m : Nat) : Int) = (n : Int) + (m : Int) by omega] at hmk
  go_enter Tryz.func148, Tryz.ntmps148
  go_wp2_with fail
  go_loopw [19] (fun s19 wr => ∃ (i : Nat) (zs : List Nat), i ≤ n ∧ s19 = .int .i64 (i : Int) ∧ zs.length = n + m ∧ Lt32 zs ∧ (∀ j z : Nat, i + m ≤ j → zs[j]? = some z → z = 0) ∧ Hid (val zs = val (xs.take i) * val ys) ∧ Blk wr w.heap.size 140 (u32s zs) ∧ Below w.heap.size w wr) (fun s19 _ => n - (intOf s19).toNat)
  case atStart => exact ⟨0, List.replicate (n + m) 0, by omega, rfl, by simp, Lt32.zeros _, (fun j z _ hz => by rw [List.getElem?_replicate] at hz; split at hz <;> simp_all), by show _ = _; rw [val_zeros]; simp [val], Blk.new _ _ _, (Below.refl _ _).alloc (Nat.le_refl _) _⟩
  case round =>
    obtain ⟨i, zs, hi, rfl, hzl, hlt, hz0, HI, hbk, hb⟩ := hrel
    have HZL := Lib.hid hzl
    have HZ0 := Lib.hid hz0
    clear hzl hz0
    by_cases hin : i < n
    · obtain ⟨b, o, x, rfl, hx, hxl, hxc⟩ := (h.below hb).get hin
      have HX := Lib.hid hx
      clear hx
      obtain ⟨wo, rfl⟩ : ∃ wo : World, wo = wr := ⟨_, rfl⟩
      go_wp2_with fail
      go_loopw [8, 26] (fun s8 s26 wr => ∃ (j cy : Nat) (qs : List Nat), j ≤ m ∧ s26 = .int .i64 (j : Int) ∧ s8 = .int .u64 (cy : Int) ∧ cy < 4294967296 ∧ qs.length = n + m ∧ Lt32 qs ∧ (∀ j z : Nat, i + m ≤ j → qs[j]? = some z → z = 0) ∧ Hid (val qs + P32 (i + j) * cy = val zs + P32 i * x * val (ys.take j)) ∧ Blk wr w.heap.size 140 (u32s qs) ∧ Below w.heap.size w wr) (fun _ s26 _ => m - (intOf s26).toNat)
      case atStart => exact ⟨0, 0, zs, by omega, rfl, rfl, by omega, HZL.out, hlt, HZ0.out, by simp [Hid, val], hbk, hb⟩
      case round =>
        obtain ⟨j, cy, qs, hj, rfl, rfl, hcy, hql, hqt, hq0, HJ, hbk2, hb2⟩ := hrel
        have HQL := Lib.hid hql
        have HQ0 := Lib.hid hq0
        clear hql hq0
        by_cases hjm : j < m
        · obtain ⟨b2, o2, y, rfl, hy, hyl, hyc⟩ := (k.below hb2).get hjm
          have HY := Lib.hid hy
          clear hy
          obtain ⟨z, hz⟩ := get_of_lt (xs := qs) (k := i + j) (by rw [HQL.out]; omega)
          have hzl := hqt _ _ hz
          have hzc := hbk2.u32 hz
          have hzf := hbk2.frozen (i + j)
          have HZ := Lib.hid hz
          clear hz
          have hxy : (x : Int) * y ≤ 18446744065119617025 := by
            have : x * y ≤ 4294967295 * 4294967295 := Nat.mul_le_mul (by omega) (by omega)
            have : ((x * y : Nat) : Int) ≤ 18446744065119617025 := by omega
            simpa using this
          have hxy0 : 0 ≤ (x : Int) * y := by
            have : 0 ≤ ((x * y : Nat) : Int) := by omega
            simpa using this
          go_wp2_with fail
          go_roundw
          case rel =>
            have hxyn : x * y ≤ 18446744065119617025 := Nat.mul_le_mul (show x ≤ 4294967295 by omega) (show y ≤ 4294967295 by omega)
            refine ⟨j + 1, (cy + (x * y + z)) / 4294967296, qs.set (i + j) ((cy + (x * y + z)) % 4294967296), by omega, by go_num, by simp, by omega, by simp [HQL.out], hqt.set (by omega), (fun j' z' hj' hz' => ?_), ?_, ?_, hb2.setCell (Nat.le_refl _) _⟩
            · rw [List.getElem?_set_ne (by omega)] at hz'
              exact HQ0.out j' z' hj' hz'
            · show _ = _
              rw [val_take_succ HY.out]
              exact mul_step HZ.out HJ.out
            · have e := hbk2.put32 (i + j) ((cy + (x * y + z)) % 4294967296)
              simpa using e
          case measure => simp [intOf]; omega
        · obtain rfl : m = j := by omega
          obtain ⟨z, hz⟩ := get_of_lt (xs := qs) (k := i + m) (by rw [HQL.out]; omega)
          obtain rfl : z = 0 := HQ0.out _ _ (Nat.le_refl _) hz
          have hzc := hbk2.u32 hz
          have hzf := hbk2.frozen (i + m)
          have HZ := Lib.hid hz
          clear hz
          go_wp2_with fail
          go_roundw
          case rel =>
            refine ⟨i + 1, qs.set (i + m) cy, by omega, by go_num, by simp [HQL.out], hqt.set hcy, (fun j' z' hj' hz' => ?_), ?_, hbk2.put32 _ _, hb2.setCell (Nat.le_refl _) _⟩
            · rw [List.getElem?_set_ne (by omega)] at hz'
              exact HQ0.out j' z' (by omega) hz'
            · have e := val_set HZ.out cy
              have e2 := HJ.out
              rw [val_take_all (by rw [k.len]; omega)] at e2
              show _ = _
              rw [val_take_succ HX.out, Nat.add_mul, ← HI.out]
              omega
          case measure => simp [intOf]; omega
    · obtain rfl : n = i := by omega
      have hdg := hbk.dig hlt (n := n + m) (c := n + m) HZL.out (Nat.le_refl _)
      go_wp2_with fail
      refine (trim_gives _ _ _ _ _ hdg (by omega)).mono ?_
      rintro e w' ⟨⟨A1, m1, c1, zs', rfl, hd1, ht1, hv1⟩, rfl⟩
      have HV1 := Lib.hid hv1
      clear hv1
      go_wp2_with fail
      go_ret
      refine ⟨⟨_, _, _, _, rfl, hd1, ht1, ?_⟩, hb⟩
      rw [HV1.out, HI.out, val_take_all (by rw [h.len]; omega)]

end Go.Proofs.YtebgmlbbilcbbaaGreatDoor
namespace Go.Proofs.YtebgmlbbilcbbaaGreatDoor
open Go.RowKit

set_option maxHeartbeats 1000000 in
theorem estimate_raw (g j m cu gv cv : Nat) (u2 u1 u0 v1 v0 : Nat) (w : World)
    (hu2 : w.cell? ⟨g, j + (m + 2), none⟩ = some (.int .u32 (u2 : Int))) (hu1 : w.cell? ⟨g, j + (m + 1), none⟩ = some (.int .u32 (u1 : Int))) (hu0 : w.cell? ⟨g, j + m, none⟩ = some (.int .u32 (u0 : Int)))
    (hv1 : w.cell? ⟨gv, m + 1, none⟩ = some (.int .u32 (v1 : Int))) (hv0 : w.cell? ⟨gv, m, none⟩ = some (.int .u32 (v0 : Int)))
    (l2 : u2 < 4294967296) (l1 : u1 < 4294967296) (l0 : u0 < 4294967296) (k1 : v1 < 4294967296) (k0 : v0 < 4294967296) (hm : m ≤ 1000000) (hnz : 0 < v1) (hle : u2 ≤ v1) (q : Nat) (hq : q < 4294967296)
    (hover : ∀ t r : Nat, t * v1 + r = u2 * 4294967296 + u1 → r * 4294967296 + u0 < t * v0 → q < t) (hmore : ∀ t r : Nat, t * v1 + r = u2 * 4294967296 + u1 → r < v1 → q ≤ t) :
    Calls Tryz.prog 193 #[.slice (some ⟨g, j, none⟩) (m + 3) cu, .slice (some ⟨gv, 0, none⟩) (m + 3) cv] w fun e w' => ∃ t r : Nat, e = .returned (.int .u64 (t : Int)) ∧ t * v1 + r = u2 * 4294967296 + u1 ∧ q ≤ t ∧ t < 4294967296 ∧ t * v0 ≤ r * 4294967296 + u0 ∧ ∃ n, w' = w.drewN n := by
  have HO := Lib.hid hover
  have HM := Lib.hid hmore
  clear hover hmore
  have hor := u64_or_hi u2 u1 l2 l1
  obtain ⟨t0, ht0⟩ : ∃ t, t = (u2 * 4294967296 + u1) / v1 := ⟨_, rfl⟩
  obtain ⟨r0, hr0⟩ : ∃ t, t = (u2 * 4294967296 + u1) % v1 := ⟨_, rfl⟩
  have hq2 : ((u2 : Int) * 4294967296 + u1) / v1 = (t0 : Int) := by rw [ht0]; simp
  have hr2 : ((u2 : Int) * 4294967296 + u1) % v1 = (r0 : Int) := by rw [hr0]; simp
  have htr : t0 * v1 + r0 = u2 * 4294967296 + u1 := by rw [ht0, hr0, Nat.mul_comm]; exact Nat.div_add_mod _ _
  have hrl : r0 < v1 := by rw [hr0]; exact Nat.mod_lt _ hnz
  have HTR := Lib.hid htr
  clear ht0 hr0 htr
  go_enter Tryz.func193, Tryz.ntmps193
  go_wp2_with fail
  go_step3
  go_upto_region 2 with fail
  go_cut [6] (fun s6 wx => s6 = .int .u64 ((u2 : Int) * 4294967296 + u1) ∧ ∃ n, wx = w.drewN n)
  case first =>
    go_quiet (fail)
    go_wp2_with fail
    go_meet
    exact ⟨rfl, _, rfl⟩
  obtain ⟨rfl, n1, rfl⟩ := hcut
  go_upto_region 3 with fail
  go_cut [7, 8] (fun s7 s8 wx => s7 = .int .u64 (t0 : Int) ∧ s8 = .int .u64 (r0 : Int) ∧ ∃ n, wx = w.drewN n)
  case first =>
    go_quiet (fail)
    go_wp2_with fail
    go_meet
    exact ⟨by rw [hq2], by rw [hr2], _, World.drewN_drewN _ _ _⟩
  obtain ⟨rfl, rfl, n2, rfl⟩ := hcut
  go_wp2_with fail
  go_step3
  go_wp2_with fail
  go_loopw [7, 8] (fun s7 s8 wr => ∃ (t r : Nat), s7 = .int .u64 (t : Int) ∧ s8 = .int .u64 (r : Int) ∧ Hid (t * v1 + r = u2 * 4294967296 + u1) ∧ q ≤ t ∧ r < 8589934592 ∧ t ≤ 18446744073709551615 ∧ ∃ n, wr = w.drewN n) (fun _ s8 _ => 8589934592 - (intOf s8).toNat)
  case atStart =>
    refine ⟨t0, r0, rfl, rfl, HTR, HM.out _ _ HTR.out hrl, by omega, ?_, _, rfl⟩
    have := HTR.out
    have : t0 * 1 ≤ t0 * v1 := Nat.mul_le_mul_left _ hnz
    omega
  case round =>
    obtain ⟨t, r, rfl, rfl, HT, hqt, hrl2, htl, nd, rfl⟩ := hrel
    by_cases hr1 : r ≤ 4294967295
    · by_cases ht1 : t ≤ 4294967295
      · have hor2 := u64_or_hi r u0 (by omega) l0
        have hxy : (t : Int) * v0 ≤ 18446744065119617025 := by
          have : t * v0 ≤ 4294967295 * 4294967295 := Nat.mul_le_mul (by omega) (by omega)
          have : ((t * v0 : Nat) : Int) ≤ 18446744065119617025 := by omega
          simpa using this
        have hxy0 : 0 ≤ (t : Int) * v0 := by
          have : 0 ≤ ((t * v0 : Nat) : Int) := by omega
          simpa using this
        have hg : decide ((t : Int) ≤ 4294967295) = true := by simp; omega
        by_cases hc : t * v0 ≤ r * 4294967296 + u0
        · have hc2 : (t : Int) * v0 ≤ (r : Int) * 4294967296 + u0 := by
            have : ((t * v0 : Nat) : Int) ≤ ((r * 4294967296 + u0 : Nat) : Int) := by omega
            simpa using this
          go_wp2_with fail
          go_quiet (fail)
          go_wp2_with fail
          rw [Exit.noGoto_ret]
          go_ret
          exact ⟨t, r, rfl, HT.out, hqt, by omega, hc, _, World.drewN_drewN _ _ _⟩
        · have hc2 : ¬ (t : Int) * v0 ≤ (r : Int) * 4294967296 + u0 := by
            intro h1
            have : ((t * v0 : Nat) : Int) ≤ ((r * 4294967296 + u0 : Nat) : Int) := by simpa using h1
            omega
          have h1t : 1 ≤ t := by
            rcases Nat.eq_zero_or_pos t with h1 | h1
            · subst h1; omega
            · exact h1
          go_wp2_with fail
          go_quiet (fail)
          go_wp2_with fail
          go_roundw
          case rel =>
            refine ⟨t - 1, r + v1, by go_num, by go_num, ?_, by have := HO.out t r HT.out (by omega); omega, by omega, by omega, _, rfl⟩
            obtain ⟨t', rfl⟩ : ∃ t', t = t' + 1 := ⟨t - 1, by omega⟩
            have e := HT.out
            show _ = _
            rw [Nat.add_mul] at e
            rw [Nat.add_sub_cancel]
            omega
          case measure => simp [intOf]; omega
      · have hg : decide ((t : Int) ≤ 4294967295) = false := by simp; omega
        go_wp2_with fail
        go_quiet (fail)
        go_wp2_with fail
        go_roundw
        case rel =>
          refine ⟨t - 1, r + v1, by go_num, by go_num, ?_, by omega, by omega, by omega, _, rfl⟩
          obtain ⟨t', rfl⟩ : ∃ t', t = t' + 1 := ⟨t - 1, by omega⟩
          have e := HT.out
          show _ = _
          rw [Nat.add_mul] at e
          rw [Nat.add_sub_cancel]
          omega
        case measure => simp [intOf]; omega
    · have htb : t < 4294967296 := by
        rcases Nat.lt_or_ge t 4294967296 with h1 | h1
        · exact h1
        · exfalso
          have e := HT.out
          have : 4294967296 * v1 ≤ t * v1 := Nat.mul_le_mul_right _ h1
          omega
      have hxy : t * v0 ≤ 4294967295 * 4294967295 := Nat.mul_le_mul (by omega) (by omega)
      go_wp2_with fail
      rw [Exit.noGoto_ret]
      go_ret
      exact ⟨t, r, rfl, HT.out, hqt, htb, by omega, _, rfl⟩

end Go.Proofs.YtebgmlbbilcbbaaGreatDoor
namespace Go.Proofs.YtebgmlbbilcbbaaGreatDoor
open Go.RowKit

/-- What takeAway leaves. -/
def Took (w : World) (g j n gv guess : Nat) (L vs : List Nat) (e : Ending) (w' : World) : Prop :=
  ∃ (us : List Nat) (ng : Nat), ng ≤ 1 ∧ us.length = n + 1 ∧ Lt32 us ∧ val us + guess * val (vs.take n) = val ((L.drop j).take (n + 1)) + P32 (n + 1) * ng ∧ e = .returned (.bool (ng == 1)) ∧
    Blk w' g 140 (u32s (L.take j ++ us ++ L.drop (j + (n + 1)))) ∧ Blk w' gv 140 (u32s vs) ∧ w.grownBy w' (some g)

set_option maxHeartbeats 1000000 in
theorem takeAway_any (g j n cu gv cv guess : Nat) (L vs : List Nat) (w : World) (hg : Blk w g 140 (u32s L)) (hL : Lt32 L) (hj : j + n + 1 ≤ L.length) (hv : Blk w gv 140 (u32s vs)) (hV : Lt32 vs) (hne : gv ≠ g) (hn : n ≤ vs.length) (hnb : n ≤ 1000000) (hgs : guess ≤ 4294967296) :
    Calls Tryz.prog 194 #[.slice (some ⟨g, j, none⟩) (n + 1) cu, .slice (some ⟨gv, 0, none⟩) n cv, .int .u64 (guess : Int)] w (Took w g j n gv guess L vs) := by
  go_enter Tryz.func194, Tryz.ntmps194
  go_wp2_with fail
  go_loopw [7, 8, 15] (fun s7 s8 s15 wr => ∃ (i cy bw : Nat) (f : List Nat), i ≤ n ∧ s15 = .int .i64 (i : Int) ∧ s7 = .int .u64 (cy : Int) ∧ s8 = .int .u64 (bw : Int) ∧ cy < 4294967296 ∧ bw ≤ 1 ∧ f.length = i ∧ Lt32 f ∧ Hid (val f + guess * val (vs.take i) = val ((L.drop j).take i) + P32 i * (cy + bw)) ∧ Blk wr g 140 (u32s (L.take j ++ f ++ L.drop (j + i))) ∧ Blk wr gv 140 (u32s vs) ∧ w.grownBy wr (some g)) (fun _ _ s15 _ => n - (intOf s15).toNat)
  case atStart => exact ⟨0, 0, 0, [], by omega, rfl, rfl, rfl, by omega, by omega, rfl, Lt32.nil, by simp [Hid, val], by simpa using hg, hv, grown_refl _ _⟩
  case round =>
    obtain ⟨i, cy, bw, f, hi, rfl, rfl, rfl, hcy, hbw, hf, hlt, HI, hbk, hbv, hgr⟩ := hrel
    have hlj : (L.take j).length = j := by rw [List.length_take]; omega
    obtain ⟨u, hu⟩ : ∃ u, L[j + i]? = some u := ⟨_, List.getElem?_eq_getElem (by omega)⟩
    have hul := hL _ _ hu
    have hu2 : (L.take j ++ f ++ L.drop (j + i))[j + i]? = some u := by
      rw [List.getElem?_append_right (by simp; omega), List.length_append, hlj, hf, Nat.sub_self, List.getElem?_drop, Nat.add_zero]; exact hu
    have huc := hbk.u32 hu2
    have huf := hbk.frozen (j + i)
    have HU := Lib.hid hu
    have HF := Lib.hid hf
    have HLJ := Lib.hid hlj
    clear hu hf hu2 hlj
    by_cases hin : i < n
    · obtain ⟨d, hd⟩ : ∃ d, vs[i]? = some d := ⟨_, List.getElem?_eq_getElem (by omega)⟩
      have hdl := hV _ _ hd
      have hdc := hbv.u32 hd
      have HD := Lib.hid hd
      clear hd
      obtain ⟨s, hs⟩ : ∃ s, s = cy + guess * d := ⟨_, rfl⟩
      have hgd : guess * d ≤ 4294967296 * 4294967295 := Nat.mul_le_mul hgs (by omega)
      have hw1 : (cy : Int) + (guess : Int) * d = (s : Int) := by rw [hs]; simp
      have hgd2 : (guess : Int) * d ≤ 18446744069414584320 := by
        have : ((guess * d : Nat) : Int) ≤ 18446744069414584320 := by omega
        simpa using this
      have hgd0 : 0 ≤ (guess : Int) * d := by
        have : 0 ≤ ((guess * d : Nat) : Int) := by omega
        simpa using this
      have hsl : s < 18446744073709551616 := by omega
      have HS := Lib.hid hs
      clear hs
      obtain ⟨lo, hlo⟩ : ∃ lo, lo = s % 4294967296 := ⟨_, rfl⟩
      have hand := u64_low s hsl
      rw [← hlo] at hand
      obtain ⟨D, dg, b', hD, hdg, hb', hb1, hdgl, hsum, hDl⟩ := u64_borrow u lo bw hul (by omega) hbw
      have HLO := Lib.hid hlo
      have HDG := Lib.hid hdg
      have HB := Lib.hid hb'
      have HSUM := Lib.hid hsum
      clear hlo hdg hb' hsum
      go_wp2_with fail
      go_roundw
      case rel =>
        refine ⟨i + 1, s / 4294967296, b', f ++ [dg], by omega, by go_num, by go_num, ?_, by omega, hb1, by simp [HF.out], hlt.snoc hdgl, ?_, ?_, hbv.far hne _, grown_set hgr _ _⟩
        · rw [HB.out]; go_num
        · show _ = _
          rw [val_take_succ HD.out, window_take HU.out]
          exact take_step HF.out HI.out (by rw [← HS.out, HLO.out]; omega) HSUM.out
        · have e := hbk.put32 (j + i) dg
          rw [window_set HLJ.out HF.out HU.out, HDG.out] at e
          rw [show ((D % 4294967296 : Nat) : Int) = (D : Int) % 4294967296 by omega, ← HDG.out] at e
          exact e
      case measure => simp [intOf]; omega
    · obtain rfl : n = i := by omega
      obtain ⟨D, dg, b', hD, hdg, hb', hb1, hdgl, hsum, hDl⟩ := u64_borrow u cy bw hul hcy hbw
      have HDG := Lib.hid hdg
      have HB := Lib.hid hb'
      have HSUM := Lib.hid hsum
      clear hdg hb' hsum
      go_wp2_with fail
      go_ret
      refine ⟨f ++ [dg], b', hb1, by simp [HF.out], hlt.snoc hdgl, ?_, ?_, ?_, hbv.far hne _, grown_set hgr _ _⟩
      · have e := take_step (q := guess) (d := 0) (cy' := 0) (lo := cy) HF.out HI.out (by omega) HSUM.out
        rw [window_take HU.out]
        simpa using e
      · have e : ((D : Int) / 9223372036854775808 == 1) = (b' == 1) := by
          have := HB.out
          rw [Bool.eq_iff_iff]
          simp only [beq_iff_eq]
          omega
        exact congrArg (fun x => Ending.returned (Value.bool x)) e
      · have e := hbk.put32 (j + n) dg
        rw [window_set HLJ.out HF.out HU.out, HDG.out] at e
        rw [show ((D % 4294967296 : Nat) : Int) = (D : Int) % 4294967296 by omega, ← HDG.out] at e
        exact e

/-- What putBack leaves. -/
def Put (w : World) (g j n gv : Nat) (L vs : List Nat) (e : Ending) (w' : World) : Prop :=
  ∃ (us : List Nat) (c : Nat), us.length = n + 1 ∧ Lt32 us ∧ val us + P32 (n + 1) * c = val ((L.drop j).take (n + 1)) + val (vs.take n) ∧ e = .returned (.tuple #[]) ∧
    Blk w' g 140 (u32s (L.take j ++ us ++ L.drop (j + (n + 1)))) ∧ Blk w' gv 140 (u32s vs) ∧ w.grownBy w' (some g)

set_option maxHeartbeats 1000000 in
theorem putBack_any (g j n cu gv cv : Nat) (L vs : List Nat) (w : World) (hg : Blk w g 140 (u32s L)) (hL : Lt32 L) (hj : j + n + 1 ≤ L.length) (hv : Blk w gv 140 (u32s vs)) (hV : Lt32 vs) (hne : gv ≠ g) (hn : n ≤ vs.length) (hnb : n ≤ 1000000) :
    Calls Tryz.prog 195 #[.slice (some ⟨g, j, none⟩) (n + 1) cu, .slice (some ⟨gv, 0, none⟩) n cv] w (Put w g j n gv L vs) := by
  go_enter Tryz.func195, Tryz.ntmps195
  go_wp2_with fail
  go_loopw [4, 9] (fun s4 s9 wr => ∃ (i cy : Nat) (f : List Nat), i ≤ n ∧ s9 = .int .i64 (i : Int) ∧ s4 = .int .u64 (cy : Int) ∧ cy ≤ 1 ∧ f.length = i ∧ Lt32 f ∧ Hid (val f + P32 i * cy = val ((L.drop j).take i) + val (vs.take i)) ∧ Blk wr g 140 (u32s (L.take j ++ f ++ L.drop (j + i))) ∧ Blk wr gv 140 (u32s vs) ∧ w.grownBy wr (some g)) (fun _ s9 _ => n - (intOf s9).toNat)
  case atStart => exact ⟨0, 0, [], by omega, rfl, rfl, by omega, rfl, Lt32.nil, by simp [Hid, val], by simpa using hg, hv, grown_refl _ _⟩
  case round =>
    obtain ⟨i, cy, f, hi, rfl, rfl, hcy, hf, hlt, HI, hbk, hbv, hgr⟩ := hrel
    have hlj : (L.take j).length = j := by rw [List.length_take]; omega
    obtain ⟨u, hu⟩ : ∃ u, L[j + i]? = some u := ⟨_, List.getElem?_eq_getElem (by omega)⟩
    have hul := hL _ _ hu
    have hu2 : (L.take j ++ f ++ L.drop (j + i))[j + i]? = some u := by
      rw [List.getElem?_append_right (by simp; omega), List.length_append, hlj, hf, Nat.sub_self, List.getElem?_drop, Nat.add_zero]; exact hu
    have huc := hbk.u32 hu2
    have huf := hbk.frozen (j + i)
    have HU := Lib.hid hu
    have HF := Lib.hid hf
    have HLJ := Lib.hid hlj
    clear hu hf hu2 hlj
    by_cases hin : i < n
    · obtain ⟨d, hd⟩ : ∃ d, vs[i]? = some d := ⟨_, List.getElem?_eq_getElem (by omega)⟩
      have hdl := hV _ _ hd
      have hdc := hbv.u32 hd
      have HD := Lib.hid hd
      clear hd
      go_wp2_with fail
      go_roundw
      case rel =>
        refine ⟨i + 1, (cy + (u + d)) / 4294967296, f ++ [(cy + (u + d)) % 4294967296], by omega, by go_num, by go_num, by omega, by simp [HF.out], hlt.snoc (by omega), ?_, ?_, hbv.far hne _, grown_set hgr _ _⟩
        · have e := carry_step HF.out (cy + (u + d))
          have e1 := HI.out
          rw [Nat.mul_add, Nat.mul_add] at e
          show _ = _
          rw [val_take_succ HD.out, window_take HU.out]
          omega
        · have e := hbk.put32 (j + i) ((cy + (u + d)) % 4294967296)
          rw [window_set HLJ.out HF.out HU.out] at e
          simpa using e
      case measure => simp [intOf]; omega
    · obtain rfl : n = i := by omega
      go_wp2_with fail
      go_end0
      refine ⟨f ++ [(u + cy) % 4294967296], (u + cy) / 4294967296, by simp [HF.out], hlt.snoc (by omega), ?_, rfl, ?_, hbv.far hne _, grown_set hgr _ _⟩
      · have e := carry_step HF.out (u + cy)
        have e1 := HI.out
        rw [Nat.mul_add] at e
        rw [window_take HU.out]
        omega
      · have e := hbk.put32 (j + n) ((u + cy) % 4294967296)
        rw [window_set HLJ.out HF.out HU.out] at e
        simpa using e

end Go.Proofs.YtebgmlbbilcbbaaGreatDoor
namespace Go.Proofs.YtebgmlbbilcbbaaGreatDoor

/-- What Int returns: the number, if it fits. -/
def intRes (n : Nat) : Value := if n ≤ 9223372036854775807 then .tuple #[.int .i64 (n : Int), .bool true] else .tuple #[.int .i64 0, .bool false]
/-- Whether a string has no byte 0 in front. -/
def rightB (s : ByteArray) : Bool := s.data.toList.head? != some 0
/-- What Sub returns. -/
def subRes (m n : Nat) : Value := if n ≤ m then .tuple #[.string (natS (m - n)), .bool true] else .tuple #[.string ⟨#[]⟩, .bool false]
/-- What Quo returns. -/
def quoRes (m n : Nat) : Value := if n = 0 then .tuple #[.string ⟨#[]⟩, .string ⟨#[]⟩, .bool false] else .tuple #[.string (natS (m / n)), .string (natS (m % n)), .bool true]

end Go.Proofs.YtebgmlbbilcbbaaGreatDoor
namespace Go.Proofs.YtebgmlbbilcbbaaGreatDoor
open Go.RowKit

theorem estimate_any (g j n cu gv cv : Nat) (L vs : List Nat) (w : World) (hg : Blk w g 140 (u32s L)) (hL : Lt32 L) (hj : j + n + 1 ≤ L.length) (hv : Blk w gv 140 (u32s vs)) (hV : Lt32 vs) (hvl : vs.length = n + 1) (hn2 : 2 ≤ n) (hnb : n ≤ 1000000)
    (hpos : ∃ v1, vs[n - 1]? = some v1 ∧ 0 < v1) (hlt : val ((L.drop j).take (n + 1)) < 4294967296 * val (vs.take n)) :
    Calls Tryz.prog 193 #[.slice (some ⟨g, j, none⟩) (n + 1) cu, .slice (some ⟨gv, 0, none⟩) (n + 1) cv] w fun e w' => ∃ t : Nat, e = .returned (.int .u64 (t : Int)) ∧ val ((L.drop j).take (n + 1)) / val (vs.take n) ≤ t ∧ t ≤ val ((L.drop j).take (n + 1)) / val (vs.take n) + 1 ∧ t < 4294967296 ∧ ∃ k, w' = w.drewN k := by
  obtain ⟨m, rfl⟩ : ∃ m, n = m + 2 := ⟨n - 2, by omega⟩
  obtain ⟨v1, hv1, h1⟩ := hpos
  rw [show m + 2 - 1 = m + 1 by omega] at hv1
  have gu : ∀ i, i < m + 3 → ∃ u, L[j + i]? = some u := fun i hi => ⟨_, List.getElem?_eq_getElem (by omega)⟩
  obtain ⟨u0, hu0⟩ := gu m (by omega)
  obtain ⟨u1, hu1⟩ := gu (m + 1) (by omega)
  obtain ⟨u2, hu2⟩ := gu (m + 2) (by omega)
  obtain ⟨v0, hv0⟩ : ∃ v, vs[m]? = some v := ⟨_, List.getElem?_eq_getElem (by omega)⟩
  have win : ∀ i u, i < m + 3 → L[j + i]? = some u → ((L.drop j).take (m + 2 + 1))[i]? = some u := fun i u hi h => by
    rw [List.getElem?_take, if_pos (by omega), List.getElem?_drop]; exact h
  have wl : ((L.drop j).take (m + 2 + 1)).length = m + 3 := by rw [List.length_take, List.length_drop]; omega
  have hWL : Lt32 ((L.drop j).take (m + 2 + 1)) := (hL.drop j).take _
  have eU := val_three wl (win m u0 (by omega) hu0) (win (m + 1) u1 (by omega) hu1) (win (m + 2) u2 (by omega) hu2)
  have loU := val_take_lt (m := m) hWL (by omega)
  have vin : ∀ i v, i < m + 2 → vs[i]? = some v → (vs.take (m + 2))[i]? = some v := fun i v hi h => by rw [List.getElem?_take, if_pos hi]; exact h
  have vl : (vs.take (m + 2)).length = m + 2 := by rw [List.length_take]; omega
  have eV := val_two vl (vin m v0 (by omega) hv0) (vin (m + 1) v1 (by omega) hv1)
  have loV := val_take_lt (m := m) (hV.take (m + 2)) (by omega)
  generalize hUU : val ((L.drop j).take (m + 2 + 1)) = U at *
  generalize hVV : val (vs.take (m + 2)) = V at *
  have pp := P32_pos m
  have hVp : 0 < V := by
    rw [eV]
    have : P32 m * 1 ≤ P32 m * (v0 + 4294967296 * v1) := Nat.mul_le_mul_left _ (by omega)
    omega
  have hq : U / V * V ≤ U := Nat.div_mul_le_self U V
  have l0 := hL _ _ hu0
  have k0 := hV _ _ hv0
  have htop := est_top eU eV loV k0 hlt
  have hqB : U / V < 4294967296 := (Nat.div_lt_iff_lt_mul hVp).2 hlt
  refine (estimate_raw g j m cu gv cv u2 u1 u0 v1 v0 w (hg.u32 hu2) (hg.u32 hu1) (hg.u32 hu0) (hv.u32 hv1) (hv.u32 hv0) (hL _ _ hu2) (hL _ _ hu1) l0 (hV _ _ hv1) k0 (by omega) h1 htop (U / V) hqB
    (fun t r ht hr => est_over eU loU eV hq ht hr) (fun t r ht hr => est_more eU loU eV l0 hq ht hr)).mono ?_
  rintro e w' ⟨t, r, rfl, ht, hqt, htl, hle, hw⟩
  refine ⟨t, rfl, hqt, ?_, htl, hw⟩
  have := est_post pp eU eV loV h1 ht htl hle
  have e2 : t * V < (U / V + 2) * V := by
    have h3 := Nat.div_add_mod U V
    have h4 := Nat.mod_lt U hVp
    rw [Nat.mul_comm V] at h3
    rw [Nat.add_mul]
    omega
  have := Nat.lt_of_mul_lt_mul_right e2
  omega

/-- What divide returns. -/
def Divides (w : World) (q r : Nat) (e : Ending) : Prop :=
  ∃ A1 n1 c1 q1 A2 n2 c2 r1, e = .returned (.tuple #[.slice A1 n1 c1, .slice A2 n2 c2]) ∧ Dig w A1 n1 c1 q1 ∧ Trim q1 ∧ val q1 = q ∧ Dig w A2 n2 c2 r1 ∧ Trim r1 ∧ val r1 = r

set_option maxHeartbeats 400000 in
theorem divide_lt (A : Option Addr) (n c : Nat) (xs : List Nat) (B : Option Addr) (m d : Nat) (ys : List Nat) (w : World) (h : Dig w A n c xs) (k : Dig w B m d ys) (hn : n ≤ 1000000) (hm : m ≤ 1000000) (tx : Trim xs) (ty : Trim ys) (hlt : val xs < val ys) :
    Calls Tryz.prog 164 #[.slice A n c, .slice B m d] w fun e w' => Divides w' (val xs / val ys) (val xs % val ys) e ∧ Below w.heap.size w w' := by
  have hc := compare_any A n c xs B m d ys w h k hn hm tx ty
  rw [cmpI_lt hlt] at hc
  have HC := Lib.hid hc
  have HLT := Lib.hid hlt
  clear hc hlt
  go_enter Tryz.func164, Tryz.ntmps164
  go_wp2_with fail
  refine HC.out.mono ?_
  rintro e w1 ⟨rfl, hb⟩
  go_wp2_with fail
  go_ret2
  refine ⟨⟨_, _, _, [], _, _, _, xs, rfl, Dig.nil_ _ _ _, fun h => absurd h (by simp), ?_, h.below hb, tx, ?_⟩, hb⟩
  · rw [Nat.div_eq_of_lt HLT.out]; rfl
  · rw [Nat.mod_eq_of_lt HLT.out]

set_option maxHeartbeats 400000 in
theorem divide_small (A : Option Addr) (n c : Nat) (xs : List Nat) (B : Option Addr) (m d : Nat) (ys : List Nat) (w : World) (h : Dig w A n c xs) (k : Dig w B m d ys) (hn : n ≤ 2) (tx : Trim xs) (ty : Trim ys) (hge : val ys ≤ val xs) (hpos : 0 < val ys) :
    Calls Tryz.prog 164 #[.slice A n c, .slice B m d] w fun e w' => Divides w' (val xs / val ys) (val xs % val ys) e ∧ Below w.heap.size w w' := by
  have hx := val_lt h.lt
  have hx2 : val xs < 18446744073709551616 := by
    have : P32 xs.length ≤ P32 2 := Nat.pow_le_pow_right (by omega) (by rw [h.len]; exact hn)
    have e : P32 2 = 18446744073709551616 := rfl
    omega
  have hm : m ≤ 2 := by
    rw [← k.len]
    exact ty.len_le (n := 2) (by have e : P32 2 = 18446744073709551616 := rfl; omega)
  have hcm : ∃ z : Int, 0 ≤ z ∧ cmpI (val xs) (val ys) = z := by
    rcases Nat.lt_or_ge (val ys) (val xs) with h1 | h1
    · exact ⟨1, by omega, cmpI_gt h1⟩
    · exact ⟨0, by omega, cmpI_eq (by omega)⟩
  obtain ⟨z, hz0, hz⟩ := hcm
  have hc := compare_any A n c xs B m d ys w h k (by omega) (by omega) tx ty
  rw [hz] at hc
  obtain ⟨a, ha⟩ : ∃ a, a = val xs := ⟨_, rfl⟩
  obtain ⟨b, hb⟩ : ∃ b, b = val ys := ⟨_, rfl⟩
  obtain ⟨q, hq⟩ : ∃ q, q = a / b := ⟨_, rfl⟩
  obtain ⟨r, hr⟩ : ∃ r, r = a % b := ⟨_, rfl⟩
  have hq2 : (a : Int) / b = (q : Int) := by rw [hq]; simp
  have hr2 : (a : Int) % b = (r : Int) := by rw [hr]; simp
  have hr3 : (a : Int).tmod b = (r : Int) := by rw [Int.tmod_eq_emod_of_nonneg (by omega), hr2]
  have hq3 : IntKind.u64.wrap ((a : Int).tdiv b) = (q : Int) := by
    rw [Int.tdiv_eq_ediv_of_nonneg (by omega), hq2, IntWalk.u64_in]
    have : q ≤ a := by rw [hq]; exact Nat.div_le_self _ _
    omega
  have hql : q ≤ a := by rw [hq]; exact Nat.div_le_self _ _
  have hrl : r ≤ a := by rw [hr]; exact Nat.mod_le _ _
  have hq4 : IntKind.u64.wrap (q : Int) = (q : Int) := IntWalk.u64_in _ (by omega)
  rw [← ha] at hge hx2
  rw [← hb] at hge hpos
  have HC := Lib.hid hc
  have HQ := Lib.hid hq
  have HR := Lib.hid hr
  have HA := Lib.hid ha
  have HB := Lib.hid hb
  clear hc hz hq hr ha hb hx
  go_enter Tryz.func164, Tryz.ntmps164
  go_wp2_with fail
  refine HC.out.mono ?_
  rintro e w1 ⟨rfl, hb1⟩
  have h1 := h.below hb1
  have k1 := k.below hb1
  go_wp2_with fail
  refine (join_any _ _ _ _ _ h1 hn).mono ?_
  rintro e w1 ⟨rfl, rfl⟩
  rw [← HA.out]
  go_wp2_with fail
  refine (join_any _ _ _ _ _ k1 hm).mono ?_
  rintro e w1 ⟨rfl, rfl⟩
  rw [← HB.out]
  go_upto_region 5 with fail
  go_region_with (first
    | (go_at_call_of 190 (Value.int IntKind.u64 (q : Int)); refine (split_any q _ (by omega)).mono ?_; rintro e wq ⟨⟨Aq, mq, cq, zq, rfl, hdq, htq, hvq⟩, hbq⟩; have HVQ := Lib.hid hvq; clear hvq)
    | (go_at_call_of 190 (Value.int IntKind.u64 (r : Int)); refine (split_any r _ (by omega)).mono ?_; rintro e wr ⟨⟨Ar, mr, cr, zr, rfl, hdr, htr, hvr⟩, hbr⟩; have HVR := Lib.hid hvr; clear hvr))
  all_goals (go_wp2_with fail; go_ret2)
  all_goals
    refine ⟨⟨_, _, _, _, _, _, _, _, rfl, hdq.below hbr, htq, ?_, hdr, htr, ?_⟩, below_then (below_then hb1.drew hbq) hbr⟩
    · rw [HVQ.out, HQ.out, HA.out, HB.out]
    · rw [HVR.out, HR.out, HA.out, HB.out]

set_option maxHeartbeats 400000 in
theorem divide_one (A : Option Addr) (n c : Nat) (xs : List Nat) (B : Option Addr) (d : Nat) (y : Nat) (w : World) (h : Dig w A n c xs) (k : Dig w B 1 d [y]) (hn : n ≤ 1000000) (hn2 : 2 < n) (tx : Trim xs) (ty : Trim [y]) :
    Calls Tryz.prog 164 #[.slice A n c, .slice B 1 d] w fun e w' => Divides w' (val xs / val [y]) (val xs % val [y]) e ∧ Below w.heap.size w w' := by
  have hc := compare_any A n c xs B 1 d [y] w h k hn (by omega) tx ty
  rw [cmpI_gt (tx.lt_of_len k.lt (by rw [h.len]; simp; omega))] at hc
  obtain ⟨b, o, y', rfl, hy, hyl, hyc⟩ := k.get (k := 0) (by omega)
  have e : y' = y := by simpa using hy.symm
  subst e
  have hyp : 0 < y' := by
    obtain ⟨d, hd, hne⟩ := ty (by simp)
    simp at hd
    omega
  have HC := Lib.hid hc
  clear hc hy
  rw [Nat.add_zero] at hyc
  go_enter Tryz.func164, Tryz.ntmps164
  go_wp2_with fail
  refine HC.out.mono ?_
  rintro e w1 ⟨rfl, hb1⟩
  have h1 := h.below hb1
  have hyc1 : w1.cell? ⟨b, o, none⟩ = some (.int .u32 (y' : Int)) := (hb1.cell (p := ⟨b, o, none⟩) (block_lt_of_cell hyc)).trans hyc
  go_wp2_with fail
  refine (divideDigit_any _ _ _ _ _ _ h1 hn hyp hyl).mono ?_
  rintro e w2 ⟨A', m', c', zs, rfl, hd, ht, hv, hb2⟩
  have HV := Lib.hid hv
  clear hv
  have hrl : val xs % y' < y' := Nat.mod_lt _ hyp
  obtain ⟨r, hr⟩ : ∃ r, r = val xs % y' := ⟨_, rfl⟩
  rw [← hr] at hrl ⊢
  have HR := Lib.hid hr
  clear hr
  go_wp2_with fail
  refine (split_any r _ (by omega)).mono ?_
  rintro e w3 ⟨⟨A3, m3, c3, z3, rfl, hd3, ht3, hv3⟩, hb3⟩
  have HV3 := Lib.hid hv3
  clear hv3
  go_wp2_with fail
  go_ret2
  have hb : Below w.heap.size w w3 := (hb1.trans (hb2.mono hb1.size)).trans (hb3.mono (Nat.le_trans hb1.size hb2.size))
  refine ⟨⟨_, _, _, _, _, _, _, _, rfl, hd.below hb3, ht, ?_, hd3, ht3, ?_⟩, hb⟩
  · rw [HV.out]; simp [val]
  · rw [HV3.out, HR.out]; simp [val]

end Go.Proofs.YtebgmlbbilcbbaaGreatDoor
