/- product: Montgomery's product. -/
import Derived.Test.YtebgmlbbilcbbaaGreatDoorNatN
import Derived.Deep.QuietTactic
import Derived.BigQuiet
namespace Go.Proofs.YtebgmlbbilcbbaaGreatDoor
open Go.RowKit

set_option maxRecDepth 100000 in
set_option maxHeartbeats 4000000 in
theorem product_any (A : Option Addr) (n c : Nat) (ms : List Nat) (inv : Nat) (A1 : Option Addr) (c1 : Nat) (xs : List Nat) (A2 : Option Addr) (c2 : Nat) (ys : List Nat) (m0 : Nat) (w : World)
    (hM : Dig w A n c ms) (hX : Dig w A1 n c1 xs) (hY : Dig w A2 n c2 ys) (tM : Trim ms) (hm0 : ms[0]? = some m0) (hi1 : ((m0 : Int) * inv + 1) % 4294967296 = 0) (hn : n ≤ 100000) (hxm : val xs < val ms) :
    Calls Tryz.prog 198 #[.agg #[.slice A n c, .int .u32 (inv : Int)], .slice A1 n c1, .slice A2 n c2] w fun e w' => (∃ R : Nat, GivesN w' n R e ∧ R < val ms ∧ R * P32 n % val ms = val xs * val ys % val ms) ∧ Below w.heap.size w w' := by
  have hn0 : 0 < n := by
    rw [← hM.len]
    exact (List.getElem?_eq_some_iff.1 hm0).1
  have hmk := make_u32 (n + 2) (by omega)
  rw [show ((n + 2 : Nat) : Int) = (n : Int) + 2 by omega] at hmk
  have HI1 := Lib.hid hi1
  have HM0 := Lib.hid hm0
  have HXM := Lib.hid hxm
  clear hi1 hm0 hxm
  go_enter Tryz.func198, Tryz.ntmps198
  go_wp2_with fail
  go_loopw [24] (fun s24 wr => ∃ (i : Nat) (t : List Nat) (Q : Nat), i ≤ n ∧ s24 = .int .i64 (i : Int) ∧ Hid (t.length = n + 2) ∧ Lt32 t ∧ Hid (val (t.take (n + 1)) * P32 i = val xs * val (ys.take i) + Q * val ms) ∧ Hid (Q < P32 i) ∧
    Blk wr w.heap.size 211 #[.slice A n c, .int .u32 (inv : Int)] ∧ Blk wr (w.heap.size + 1) 140 (u32s t) ∧ Below w.heap.size w wr) (fun s24 _ => n - (intOf s24).toNat)
  case atStart =>
    refine ⟨0, List.replicate (n + 2) 0, 0, by omega, rfl, by show _ = _; simp, Lt32.zeros _, ?_, ?_, (Blk.new _ _ _).alloc _, ?_, ((Below.refl _ _).alloc (Nat.le_refl _) _).alloc (by simp) _⟩
    · show _ = _
      rw [List.take_replicate, val_zeros, List.take_zero]
      simp [val]
    · show _ < _
      exact P32_pos 0
    · have := Blk.new (w.alloc (Obj.cells #[Value.slice A n c, Value.int IntKind.u32 (inv : Int)] 211)) 140 (u32s (List.replicate (n + 2) 0))
      rwa [World.size_alloc] at this
  case round =>
    obtain ⟨i, t, Q, hi, rfl, HTL, hlt, HI, HQ, hbG, hbH, hb⟩ := hrel
    by_cases hin : i < n
    · obtain ⟨b2, o2, d, rfl, hd, hdl, hdc⟩ := (hY.below hb).get hin
      have HD := Lib.hid hd
      clear hd
      obtain ⟨wo, rfl⟩ : ∃ wo : World, wo = wr := ⟨_, rfl⟩
      go_wp2_with fail
      go_loopw [11, 29] (fun s11 s29 wr => ∃ (j cy : Nat) (u : List Nat), j ≤ n ∧ s29 = .int .i64 (j : Int) ∧ s11 = .int .u64 (cy : Int) ∧ cy < 4294967296 ∧ Hid (u.length = n + 2) ∧ Lt32 u ∧ Hid (val (u.take (n + 1)) + P32 j * cy = val (t.take (n + 1)) + val (xs.take j) * d) ∧
        Blk wr w.heap.size 211 #[.slice A n c, .int .u32 (inv : Int)] ∧ Blk wr (w.heap.size + 1) 140 (u32s u) ∧ Below w.heap.size w wr) (fun _ s29 _ => n - (intOf s29).toNat)
      case atStart => exact ⟨0, 0, t, by omega, rfl, rfl, by omega, HTL, hlt, by simp [Hid, val], hbG, hbH, hb⟩
      case round =>
        obtain ⟨j, cy, u, hj, rfl, rfl, hcy, HUL, hut, HJ, hbG2, hbH2, hb2⟩ := hrel
        by_cases hjn : j < n
        · obtain ⟨b3, o3, x, rfl, hx, hxl, hxc⟩ := (hX.below hb2).get hjn
          have HX := Lib.hid hx
          clear hx
          obtain ⟨z, hz⟩ : ∃ z, u[j]? = some z := ⟨_, List.getElem?_eq_getElem (by rw [HUL.out]; omega)⟩
          have hzl := hut _ _ hz
          have hzc := hbH2.u32 hz
          have hzf := hbH2.frozen j
          have HZ := Lib.hid hz
          clear hz
          have hxy : (x : Int) * d ≤ 18446744065119617025 := by
            have : x * d ≤ 4294967295 * 4294967295 := Nat.mul_le_mul (by omega) (by omega)
            have : ((x * d : Nat) : Int) ≤ 18446744065119617025 := by omega
            simpa using this
          have hxy0 : 0 ≤ (x : Int) * d := by
            have : 0 ≤ ((x * d : Nat) : Int) := by omega
            simpa using this
          go_wp2_with fail
          go_quiet (fail)
          go_wp2_with fail
          go_roundw
          case rel =>
            have hxyn : x * d ≤ 18446744065119617025 := Nat.mul_le_mul (show x ≤ 4294967295 by omega) (show d ≤ 4294967295 by omega)
            refine ⟨j + 1, (cy + (x * d + z)) / 4294967296, u.set j ((cy + (x * d + z)) % 4294967296), by omega, by go_num, by simp, by omega, by show _ = _; rw [List.length_set]; exact HUL.out, hut.set (by omega), ?_, hbG2.far (by simp) _, ?_, (below_drewN hb2 _).setCell (by simp) _⟩
            · show _ = _
              rw [List.take_set, val_take_succ HX.out]
              exact mont_in (by rw [List.getElem?_take, if_pos (by omega)]; exact HZ.out) HJ.out
            · have e := hbH2.put32 j ((cy + (x * d + z)) % 4294967296)
              simp only [Int.natCast_emod, Int.natCast_add, Int.natCast_mul, Int.cast_ofNat_Int] at e
              exact e
          case measure => simp [intOf]; omega
        · obtain rfl : n = j := by omega
          obtain ⟨tn, htn⟩ : ∃ z, u[n]? = some z := ⟨_, List.getElem?_eq_getElem (by rw [HUL.out]; omega)⟩
          obtain ⟨t1, ht1⟩ : ∃ z, u[n + 1]? = some z := ⟨_, List.getElem?_eq_getElem (by rw [HUL.out]; omega)⟩
          have htnl := hut _ _ htn
          have htnc := hbH2.u32 htn
          have htnf := hbH2.frozen n
          have ht1c := hbH2.u32 ht1
          have ht1f := hbH2.frozen (n + 1)
          obtain ⟨a, ha⟩ : ∃ a, a = (cy + tn) % 4294967296 := ⟨_, rfl⟩
          obtain ⟨b, hb'⟩ : ∃ b, b = (cy + tn) / 4294967296 := ⟨_, rfl⟩
          have ha2 : ((cy : Int) + tn) % 4294967296 = (a : Int) := by omega
          have hb2' : ((cy : Int) + tn) / 4294967296 = (b : Int) := by omega
          have hal : a < 4294967296 := by omega
          have hbl : b ≤ 1 := by omega
          have hsum := mont_sum HUL.out htn ht1 HJ.out
          rw [← ha, ← hb'] at hsum
          have HSUM := Lib.hid hsum
          have HTN := Lib.hid htn
          have HT1 := Lib.hid ht1
          clear hsum htn ht1 ha hb'
          go_upto_region 16 with fail
          have hbS : Blk ((wr.setCell ⟨w.heap.size + 1, n, none⟩ (.int .u32 (a : Int))).setCell ⟨w.heap.size + 1, n + 1, none⟩ (.int .u32 (b : Int))) (w.heap.size + 1) 140 (u32s ((u.set n a).set (n + 1) b)) := (hbH2.put32 n a).put32 (n + 1) b
          have hbGS : Blk ((wr.setCell ⟨w.heap.size + 1, n, none⟩ (.int .u32 (a : Int))).setCell ⟨w.heap.size + 1, n + 1, none⟩ (.int .u32 (b : Int))) w.heap.size 211 #[.slice A n c, .int .u32 (inv : Int)] := (hbG2.far (by simp) _).far (by simp) _
          have hbbS : Below w.heap.size w ((wr.setCell ⟨w.heap.size + 1, n, none⟩ (.int .u32 (a : Int))).setCell ⟨w.heap.size + 1, n + 1, none⟩ (.int .u32 (b : Int))) := (hb2.setCell (by simp) _).setCell (by simp) _
          generalize ((wr.setCell ⟨w.heap.size + 1, n, none⟩ (.int .u32 (a : Int))).setCell ⟨w.heap.size + 1, n + 1, none⟩ (.int .u32 (b : Int))) = W1 at hbS hbGS hbbS ⊢
          obtain ⟨S, hS⟩ : ∃ S, S = (u.set n a).set (n + 1) b := ⟨_, rfl⟩
          have hSl : S.length = n + 2 := by rw [hS, List.length_set, List.length_set]; exact HUL.out
          have hSt : Lt32 S := by rw [hS]; exact (hut.set hal).set (by omega)
          have hS1 : S[n + 1]? = some b := by rw [hS, List.getElem?_set_self (by rw [List.length_set, HUL.out]; omega)]
          have hSn : S[n]? = some a := by rw [hS, List.getElem?_set_ne (by omega), List.getElem?_set_self (by rw [HUL.out]; omega)]
          rw [← hS] at hbS HSUM
          have HSL := Lib.hid hSl
          have HS1 := Lib.hid hS1
          have HSN := Lib.hid hSn
          clear hS hSl hS1 hSn htnc htnf ht1c ht1f hbH2 hbG2 hb2 ha2 hb2' HTN HT1 HJ HUL hut htnl
          obtain ⟨s0, hs0⟩ : ∃ z, S[0]? = some z := ⟨_, List.getElem?_eq_getElem (by rw [HSL.out]; omega)⟩
          have hs0l := hSt _ _ hs0
          have hs0c := hbS.u32 hs0
          have hG0 : W1.cell? ⟨w.heap.size, 0, none⟩ = some (.slice A n c) := hbGS.cell 0
          have hG1 : W1.cell? ⟨w.heap.size, 1, none⟩ = some (.int .u32 (inv : Int)) := hbGS.cell 1
          obtain ⟨b4, o4, m0', rfl, hm0', hm0l, hm0c⟩ := (hM.below hbbS).get hn0
          obtain rfl : m0' = m0 := by have := HM0.out; rw [hm0'] at this; simpa using this
          rw [Nat.add_zero] at hm0c
          obtain ⟨f, hf⟩ : ∃ f, f = s0 * inv % 4294967296 := ⟨_, rfl⟩
          have hf2 : (s0 : Int) * inv % 4294967296 = (f : Int) := by rw [hf]; simp
          have hfl : f < 4294967296 := by rw [hf]; exact Nat.mod_lt _ (by omega)
          obtain ⟨k0, hk0⟩ : ∃ k, k = (f * m0' + s0) / 4294967296 := ⟨_, rfl⟩
          have hk2 : ((f : Int) * m0' + s0) / 4294967296 = (k0 : Int) := by rw [hk0]; simp
          have hfm : f * m0' ≤ 4294967295 * 4294967295 := Nat.mul_le_mul (by omega) (by omega)
          have hk0l : k0 < 4294967296 := by omega
          have hfm2 : (f : Int) * m0' ≤ 18446744065119617025 := by
            have : ((f * m0' : Nat) : Int) ≤ 18446744065119617025 := by omega
            simpa using this
          have hfm0 : 0 ≤ (f : Int) * m0' := by
            have : 0 ≤ ((f * m0' : Nat) : Int) := by omega
            simpa using this
          have hstart := mont_start hf HI1.out hk0 hs0 hm0'
          have HSTART := Lib.hid hstart
          have HS0 := Lib.hid hs0
          have HF := Lib.hid hf
          clear hstart hs0 hf hk0 hm0' hfm
          go_quiet (fail)
          go_wp2_with fail
          go_quiet (fail)
          go_wp2_with fail
          go_loopw [11, 14] (fun s11 s14 wr => ∃ (j cy : Nat) (out : List Nat), j ≤ n ∧ s14 = .int .i64 (j : Int) ∧ s11 = .int .u64 (cy : Int) ∧ cy < 4294967296 ∧ Hid (out.length + 1 = j) ∧ 1 ≤ j ∧ Lt32 out ∧ Hid (4294967296 * val out + P32 j * cy = val (S.take j) + f * val (ms.take j)) ∧
            Blk wr w.heap.size 211 #[.slice (some ⟨b4, o4, none⟩) n c, .int .u32 (inv : Int)] ∧ Blk wr (w.heap.size + 1) 140 (u32s (out ++ S.drop (j - 1))) ∧ Below w.heap.size w wr) (fun _ s14 _ => n - (intOf s14).toNat)
          case atStart => exact ⟨1, k0, [], by omega, rfl, rfl, hk0l, rfl, Nat.le_refl _, Lt32.nil, HSTART, hbGS, hbS, below_drewN (below_drewN hbbS _) _⟩
          case round =>
            obtain ⟨j, cy, out, hj, rfl, rfl, hcy, HOL, hj1, hot, HJ, hbG3, hbH3, hb3⟩ := hrel
            have hG0' : wr.cell? ⟨w.heap.size, 0, none⟩ = some (.slice (some ⟨b4, o4, none⟩) n c) := hbG3.cell 0
            obtain ⟨p, hp⟩ : ∃ z, S[j - 1]? = some z := ⟨_, List.getElem?_eq_getElem (by rw [HSL.out]; omega)⟩
            have hpc := hbH3.u32 (mont_get HOL.out (Nat.le_refl _) hp)
            have hpf := hbH3.frozen (j - 1)
            have HP := Lib.hid hp
            clear hp
            by_cases hjn : j < n
            · obtain ⟨b5, o5, m, he5, hm, hml, hmc⟩ := (hM.below hb3).get hjn
              cases he5
              obtain ⟨sj, hsj⟩ : ∃ z, S[j]? = some z := ⟨_, List.getElem?_eq_getElem (by rw [HSL.out]; omega)⟩
              have hsjl := hSt _ _ hsj
              have hsjc := hbH3.u32 (mont_get HOL.out (by omega) hsj)
              have HSJ := Lib.hid hsj
              have HM := Lib.hid hm
              clear hsj hm
              have hfmn : f * m ≤ 4294967295 * 4294967295 := Nat.mul_le_mul (by omega) (by omega)
              have hfm3 : (f : Int) * m ≤ 18446744065119617025 := by
                have : ((f * m : Nat) : Int) ≤ 18446744065119617025 := by omega
                simpa using this
              have hfm4 : 0 ≤ (f : Int) * m := by
                have : 0 ≤ ((f * m : Nat) : Int) := by omega
                simpa using this
              obtain ⟨F, hF⟩ : ∃ F, F = (cy + (f * m + sj)) % 4294967296 := ⟨_, rfl⟩
              obtain ⟨K, hK⟩ : ∃ K, K = (cy + (f * m + sj)) / 4294967296 := ⟨_, rfl⟩
              have hF2 : ((cy : Int) + ((f : Int) * m + sj)) % 4294967296 = (F : Int) := by rw [hF]; simp
              have hK2 : ((cy : Int) + ((f : Int) * m + sj)) / 4294967296 = (K : Int) := by rw [hK]; simp
              have hFl : F < 4294967296 := by rw [hF]; exact Nat.mod_lt _ (by omega)
              have hKl : K < 4294967296 := by omega
              have hnew := mont_out HOL.out HSJ.out HM.out HJ.out hF hK
              have HNEW := Lib.hid hnew
              clear hnew hF hK hfmn
              go_wp2_with fail
              go_quiet (fail)
              go_wp2_with fail
              go_roundw
              case rel =>
                refine ⟨j + 1, K, out ++ [F], by omega, by go_num, ?_, hKl, ?_, by omega, hot.snoc hFl, HNEW, hbG3.far (by simp) _, ?_, (below_drewN hb3 _).setCell (by simp) _⟩
                · first | rfl | rw [hK2]
                · show _ = _
                  rw [List.length_append, List.length_singleton, HOL.out]
                · have e := hbH3.put32 (j - 1) F
                  rw [mont_set HOL.out HP.out] at e
                  rw [show j + 1 - 1 = j by omega]
                  first | exact e | (rw [hF2]; exact e)
              case measure => simp [intOf]; omega
            · obtain rfl : n = j := by omega
              have hanc := hbH3.u32 (mont_get HOL.out (by omega) HSN.out)
              have hanf := hbH3.frozen n
              have hbnc := hbH3.u32 (mont_get HOL.out (by omega) HS1.out)
              obtain ⟨F, hF⟩ : ∃ F, F = (cy + a) % 4294967296 := ⟨_, rfl⟩
              obtain ⟨K, hK⟩ : ∃ K, K = (cy + a) / 4294967296 := ⟨_, rfl⟩
              have hF2 : ((cy : Int) + a) % 4294967296 = (F : Int) := by omega
              have hK2 : ((cy : Int) + a) / 4294967296 = (K : Int) := by omega
              have hFl : F < 4294967296 := by omega
              have hKl : K ≤ 1 := by omega
              have hfin := mont_end (t1 := b) HOL.out HSL.out HSN.out HS1.out hM.len HJ.out
              rw [← hF, ← hK, HSUM.out] at hfin
              have HFIN := Lib.hid hfin
              clear hfin hF hK
              have hxt : val (xs.take n) = val xs := val_take_all (by rw [hX.len]; omega)
              rw [hxt] at HFIN
              have hrnd := mont_round HI.out HFIN.out HQ.out hfl
              have HRND := Lib.hid hrnd
              clear hrnd hxt
              have htk : (out ++ [F, b + K] ++ [b]).take (n + 1) = out ++ [F, b + K] := by
                rw [List.take_append_of_le_length (by simp; have := HOL.out; omega), List.take_of_length_le (by simp; have := HOL.out; omega)]
              have htl : (out ++ [F, b + K] ++ [b]).length = n + 2 := by simp; have := HOL.out; omega
              have htt : Lt32 (out ++ [F, b + K] ++ [b]) := ((hot.snoc hFl).append (Lt32.one (show b + K < 4294967296 by omega))).append (Lt32.one (show b < 4294967296 by omega)) |> fun h => by simpa using h
              have hll := mont_last (a := F) (b := b + K) HOL.out HSL.out HP.out HSN.out HS1.out
              have HTK := Lib.hid htk
              have HTL2 := Lib.hid htl
              have HLL := Lib.hid hll
              clear htk htl hll
              go_wp2_with fail
              go_roundw
              case rel =>
                refine ⟨i + 1, out ++ [F, b + K] ++ [b], Q + P32 i * f, by omega, by go_num, HTL2, htt, ?_, HRND.out.2, (hbG3.far (by simp) _).far (by simp) _, ?_, (hb3.setCell (by simp) _).setCell (by simp) _⟩
                · show _ = _
                  rw [HTK.out, val_take_succ HD.out]
                  exact HRND.out.1
                · have e := (hbH3.put32 (n - 1) F).put32 n (b + K)
                  rw [HLL.out] at e
                  simpa using e
              case measure => simp [intOf]; omega
    · obtain rfl : n = i := by omega
      have hyt : val (ys.take n) = val ys := val_take_all (by rw [hY.len]; omega)
      rw [hyt] at HI
      clear hyt
      have hyl : val ys < P32 n := by have := val_lt hY.lt; rwa [hY.len] at this
      have hbd := mont_bound HI.out HQ.out hyl HXM.out
      have HBD := Lib.hid hbd
      clear hbd hyl
      have htd := (hbH.dig hlt (n := n + 2) (c := n + 2) HTL.out (Nat.le_refl _)).take (m := n + 1) (by omega)
      have hG0' : wr.cell? ⟨w.heap.size, 0, none⟩ = some (.slice A n c) := hbG.cell 0
      have hMr := hM.below hb
      go_wp2_with fail
      refine (trim_gives _ _ _ _ _ htd (by omega)).mono ?_
      rintro e wx ⟨⟨Az, mz, cz, zs, rfl, hdz, htz, hvz⟩, rfl⟩
      have hmz : mz ≤ n + 1 := by
        rw [← hdz.len]
        refine htz.len_le (n := n + 1) ?_
        rw [hvz]
        have := val_lt (hlt.take (n + 1))
        rwa [List.length_take, Nat.min_eq_left (by rw [HTL.out]; omega)] at this
      rw [← hvz] at HBD HI
      have HVZ := Lib.hid hvz
      clear hvz
      have hcm := compare_any _ _ _ _ _ _ _ _ _ hdz hMr (by omega) (by omega) htz tM
      rcases Nat.lt_or_ge (val zs) (val ms) with hlt2 | hge2
      · rw [cmpI_lt hlt2] at hcm
        have HC := Lib.hid hcm
        have HLT2 := Lib.hid hlt2
        clear hcm hlt2
        go_wp2_with fail
        refine HC.out.mono ?_
        rintro e w3 ⟨rfl, hb3⟩
        have hmz2 : mz ≤ n := by
          rw [← hdz.len]
          exact htz.len_le (Nat.lt_trans HLT2.out (by have := val_lt hM.lt; rwa [hM.len] at this))
        go_wp2_with fail
        refine (pad_any _ _ _ n _ _ (hdz.below hb3) hmz2 (by omega)).mono ?_
        rintro e w4 ⟨⟨A4, c4, z4, rfl, hd4, hv4⟩, hb4⟩
        have HV4 := Lib.hid hv4
        clear hv4
        go_wp2_with fail
        go_ret
        exact ⟨⟨val zs, ⟨_, _, _, rfl, hd4, HV4.out⟩, HLT2.out, mont_res HI.out (.inl rfl)⟩, below_then (below_then hb hb3) hb4⟩
      · obtain ⟨z, hz, hz0⟩ : ∃ z, cmpI (val zs) (val ms) = z ∧ 0 ≤ z := by
          rcases Nat.lt_or_ge (val ms) (val zs) with h1 | h1
          · exact ⟨1, cmpI_gt h1, by omega⟩
          · exact ⟨0, cmpI_eq (by omega), by omega⟩
        rw [hz] at hcm
        have hmm : n ≤ mz := by
          rcases Nat.lt_or_ge mz n with h1 | h1
          · exfalso
            have := tM.lt_of_len hdz.lt (by rw [hdz.len, hM.len]; exact h1)
            omega
          · exact h1
        have HC := Lib.hid hcm
        have HGE := Lib.hid hge2
        clear hcm hge2 hz
        go_wp2_with fail
        refine HC.out.mono ?_
        rintro e w3 ⟨rfl, hb3⟩
        have hG3 : w3.cell? ⟨w.heap.size, 0, none⟩ = some (.slice A n c) := (hb3.cell (p := ⟨w.heap.size, 0, none⟩) hbG.lt).trans hG0'
        go_wp2_with fail
        refine (subtract_any _ _ _ _ _ _ _ _ _ (hdz.below hb3) (hMr.below hb3) (by omega) hmm HGE.out).mono ?_
        rintro e w4 ⟨⟨A3, m3, c3, z3, rfl, hd3, ht3, hv3⟩, hb4⟩
        have hr : val z3 < val ms := by
          have := HBD.out
          have := HGE.out
          omega
        have hm3 : m3 ≤ n := by
          rw [← hd3.len]
          exact ht3.len_le (Nat.lt_trans hr (by have := val_lt hM.lt; rwa [hM.len] at this))
        have hadd : val z3 + val ms = val zs := by
          have := HGE.out
          omega
        have HR := Lib.hid hr
        have HADD := Lib.hid hadd
        clear hv3 hr hadd
        go_wp2_with fail
        refine (pad_any _ _ _ n _ _ hd3 hm3 (by omega)).mono ?_
        rintro e w5 ⟨⟨A4, c4, z4, rfl, hd4, hv4⟩, hb5⟩
        have HV4 := Lib.hid hv4
        clear hv4
        go_wp2_with fail
        go_ret
        exact ⟨⟨val z3, ⟨_, _, _, rfl, hd4, HV4.out⟩, HR.out, mont_res HI.out (.inr HADD.out)⟩, below_then (below_then (below_then hb hb3) hb4) hb5⟩

end Go.Proofs.YtebgmlbbilcbbaaGreatDoor
