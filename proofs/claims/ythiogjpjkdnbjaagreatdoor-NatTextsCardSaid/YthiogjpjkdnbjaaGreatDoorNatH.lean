/- takeAway, putBack: their contracts. -/
import Derived.Test.YthiogjpjkdnbjaaGreatDoorNatB
namespace Go.Proofs.YthiogjpjkdnbjaaGreatDoor
open Go.RowKit

/-- What takeAway leaves. -/
def Took (w : World) (g j n gv guess : Nat) (L vs : List Nat) (e : Ending) (w' : World) : Prop :=
  ∃ (us : List Nat) (ng : Nat), ng ≤ 1 ∧ us.length = n + 1 ∧ Lt32 us ∧ val us + guess * val (vs.take n) = val ((L.drop j).take (n + 1)) + P32 (n + 1) * ng ∧ e = .returned (.bool (ng == 1)) ∧
    Blk w' g 52 (u32s (L.take j ++ us ++ L.drop (j + (n + 1)))) ∧ Blk w' gv 52 (u32s vs) ∧ w.grownBy w' (some g)

set_option maxHeartbeats 1000000 in
theorem takeAway_any (g j n cu gv cv guess : Nat) (L vs : List Nat) (w : World) (hg : Blk w g 52 (u32s L)) (hL : Lt32 L) (hj : j + n + 1 ≤ L.length) (hv : Blk w gv 52 (u32s vs)) (hV : Lt32 vs) (hne : gv ≠ g) (hn : n ≤ vs.length) (hnb : n ≤ 1000000) (hgs : guess ≤ 4294967296) :
    Calls Tryz.prog 73 #[.slice (some ⟨g, j, none⟩) (n + 1) cu, .slice (some ⟨gv, 0, none⟩) n cv, .int .u64 (guess : Int)] w (Took w g j n gv guess L vs) := by
  go_enter Tryz.func73, Tryz.ntmps73
  go_wp2_with fail
  go_loopw [7, 8, 15] (fun s7 s8 s15 wr => ∃ (i cy bw : Nat) (f : List Nat), i ≤ n ∧ s15 = .int .i64 (i : Int) ∧ s7 = .int .u64 (cy : Int) ∧ s8 = .int .u64 (bw : Int) ∧ cy < 4294967296 ∧ bw ≤ 1 ∧ f.length = i ∧ Lt32 f ∧ Hid (val f + guess * val (vs.take i) = val ((L.drop j).take i) + P32 i * (cy + bw)) ∧ Blk wr g 52 (u32s (L.take j ++ f ++ L.drop (j + i))) ∧ Blk wr gv 52 (u32s vs) ∧ w.grownBy wr (some g)) (fun _ _ s15 _ => n - (intOf s15).toNat)
  case atStart => exact ⟨0, 0, 0, [], by omega, rfl, rfl, rfl, by omega, by omega, rfl, Lt32.nil, by simp [Hid, val], by simpa using hg, hv, grown_refl _ _⟩
  case round =>
    obtain ⟨i, cy, bw, f, hi, rfl, rfl, rfl, hcy, hbw, hf, hlt, HI, hbk, hbv, hgr⟩ := hrel
    have hlj : (L.take j).length = j := by rw [List.length_take]; omega
    obtain ⟨u, hu⟩ : ∃ u, L[j + i]? = some u := ⟨_, List.getElem?_eq_getElem (by omega)⟩
    have hul := hL _ _ hu
    have hu2 : (L.take j ++ f ++ L.drop (j + i))[j + i]? = some u := by
      rw [List.getElem?_append_right (by simp; omega), List.length_append, hlj, hf, Nat.sub_self, List.getElem?_drop, Nat.add_zero]; exact hu
    have huc := hbk.u32 hu2
    have huf := hbk.frozen (j + i)
    have HU := Lib.hid hu
    have HF := Lib.hid hf
    have HLJ := Lib.hid hlj
    clear hu hf hu2 hlj
    by_cases hin : i < n
    · obtain ⟨d, hd⟩ : ∃ d, vs[i]? = some d := ⟨_, List.getElem?_eq_getElem (by omega)⟩
      have hdl := hV _ _ hd
      have hdc := hbv.u32 hd
      have HD := Lib.hid hd
      clear hd
      obtain ⟨s, hs⟩ : ∃ s, s = cy + guess * d := ⟨_, rfl⟩
      have hgd : guess * d ≤ 4294967296 * 4294967295 := Nat.mul_le_mul hgs (by omega)
      have hw1 : (cy : Int) + (guess : Int) * d = (s : Int) := by rw [hs]; simp
      have hgd2 : (guess : Int) * d ≤ 18446744069414584320 := by
        have : ((guess * d : Nat) : Int) ≤ 18446744069414584320 := by omega
        simpa using this
      have hgd0 : 0 ≤ (guess : Int) * d := by
        have : 0 ≤ ((guess * d : Nat) : Int) := by omega
        simpa using this
      have hsl : s < 18446744073709551616 := by omega
      have HS := Lib.hid hs
      clear hs
      obtain ⟨lo, hlo⟩ : ∃ lo, lo = s % 4294967296 := ⟨_, rfl⟩
      have hand := u64_low s hsl
      rw [← hlo] at hand
      obtain ⟨D, dg, b', hD, hdg, hb', hb1, hdgl, hsum, hDl⟩ := u64_borrow u lo bw hul (by omega) hbw
      have HLO := Lib.hid hlo
      have HDG := Lib.hid hdg
      have HB := Lib.hid hb'
      have HSUM := Lib.hid hsum
      clear hlo hdg hb' hsum
      go_wp2_with fail
      go_roundw
      case rel =>
        refine ⟨i + 1, s / 4294967296, b', f ++ [dg], by omega, by go_num, by go_num, ?_, by omega, hb1, by simp [HF.out], hlt.snoc hdgl, ?_, ?_, hbv.far hne _, grown_set hgr _ _⟩
        · rw [HB.out]; go_num
        · show _ = _
          rw [val_take_succ HD.out, window_take HU.out]
          exact take_step HF.out HI.out (by rw [← HS.out, HLO.out]; omega) HSUM.out
        · have e := hbk.put32 (j + i) dg
          rw [window_set HLJ.out HF.out HU.out, HDG.out] at e
          rw [show ((D % 4294967296 : Nat) : Int) = (D : Int) % 4294967296 by omega, ← HDG.out] at e
          exact e
      case measure => simp [intOf]; omega
    · obtain rfl : n = i := by omega
      obtain ⟨D, dg, b', hD, hdg, hb', hb1, hdgl, hsum, hDl⟩ := u64_borrow u cy bw hul hcy hbw
      have HDG := Lib.hid hdg
      have HB := Lib.hid hb'
      have HSUM := Lib.hid hsum
      clear hdg hb' hsum
      go_wp2_with fail
      go_ret
      refine ⟨f ++ [dg], b', hb1, by simp [HF.out], hlt.snoc hdgl, ?_, ?_, ?_, hbv.far hne _, grown_set hgr _ _⟩
      · have e := take_step (q := guess) (d := 0) (cy' := 0) (lo := cy) HF.out HI.out (by omega) HSUM.out
        rw [window_take HU.out]
        simpa using e
      · have e : ((D : Int) / 9223372036854775808 == 1) = (b' == 1) := by
          have := HB.out
          rw [Bool.eq_iff_iff]
          simp only [beq_iff_eq]
          omega
        exact congrArg (fun x => Ending.returned (Value.bool x)) e
      · have e := hbk.put32 (j + n) dg
        rw [window_set HLJ.out HF.out HU.out, HDG.out] at e
        rw [show ((D % 4294967296 : Nat) : Int) = (D : Int) % 4294967296 by omega, ← HDG.out] at e
        exact e

/-- What putBack leaves. -/
def Put (w : World) (g j n gv : Nat) (L vs : List Nat) (e : Ending) (w' : World) : Prop :=
  ∃ (us : List Nat) (c : Nat), us.length = n + 1 ∧ Lt32 us ∧ val us + P32 (n + 1) * c = val ((L.drop j).take (n + 1)) + val (vs.take n) ∧ e = .returned (.tuple #[]) ∧
    Blk w' g 52 (u32s (L.take j ++ us ++ L.drop (j + (n + 1)))) ∧ Blk w' gv 52 (u32s vs) ∧ w.grownBy w' (some g)

set_option maxHeartbeats 1000000 in
theorem putBack_any (g j n cu gv cv : Nat) (L vs : List Nat) (w : World) (hg : Blk w g 52 (u32s L)) (hL : Lt32 L) (hj : j + n + 1 ≤ L.length) (hv : Blk w gv 52 (u32s vs)) (hV : Lt32 vs) (hne : gv ≠ g) (hn : n ≤ vs.length) (hnb : n ≤ 1000000) :
    Calls Tryz.prog 74 #[.slice (some ⟨g, j, none⟩) (n + 1) cu, .slice (some ⟨gv, 0, none⟩) n cv] w (Put w g j n gv L vs) := by
  go_enter Tryz.func74, Tryz.ntmps74
  go_wp2_with fail
  go_loopw [4, 9] (fun s4 s9 wr => ∃ (i cy : Nat) (f : List Nat), i ≤ n ∧ s9 = .int .i64 (i : Int) ∧ s4 = .int .u64 (cy : Int) ∧ cy ≤ 1 ∧ f.length = i ∧ Lt32 f ∧ Hid (val f + P32 i * cy = val ((L.drop j).take i) + val (vs.take i)) ∧ Blk wr g 52 (u32s (L.take j ++ f ++ L.drop (j + i))) ∧ Blk wr gv 52 (u32s vs) ∧ w.grownBy wr (some g)) (fun _ s9 _ => n - (intOf s9).toNat)
  case atStart => exact ⟨0, 0, [], by omega, rfl, rfl, by omega, rfl, Lt32.nil, by simp [Hid, val], by simpa using hg, hv, grown_refl _ _⟩
  case round =>
    obtain ⟨i, cy, f, hi, rfl, rfl, hcy, hf, hlt, HI, hbk, hbv, hgr⟩ := hrel
    have hlj : (L.take j).length = j := by rw [List.length_take]; omega
    obtain ⟨u, hu⟩ : ∃ u, L[j + i]? = some u := ⟨_, List.getElem?_eq_getElem (by omega)⟩
    have hul := hL _ _ hu
    have hu2 : (L.take j ++ f ++ L.drop (j + i))[j + i]? = some u := by
      rw [List.getElem?_append_right (by simp; omega), List.length_append, hlj, hf, Nat.sub_self, List.getElem?_drop, Nat.add_zero]; exact hu
    have huc := hbk.u32 hu2
    have huf := hbk.frozen (j + i)
    have HU := Lib.hid hu
    have HF := Lib.hid hf
    have HLJ := Lib.hid hlj
    clear hu hf hu2 hlj
    by_cases hin : i < n
    · obtain ⟨d, hd⟩ : ∃ d, vs[i]? = some d := ⟨_, List.getElem?_eq_getElem (by omega)⟩
      have hdl := hV _ _ hd
      have hdc := hbv.u32 hd
      have HD := Lib.hid hd
      clear hd
      go_wp2_with fail
      go_roundw
      case rel =>
        refine ⟨i + 1, (cy + (u + d)) / 4294967296, f ++ [(cy + (u + d)) % 4294967296], by omega, by go_num, by go_num, by omega, by simp [HF.out], hlt.snoc (by omega), ?_, ?_, hbv.far hne _, grown_set hgr _ _⟩
        · have e := carry_step HF.out (cy + (u + d))
          have e1 := HI.out
          rw [Nat.mul_add, Nat.mul_add] at e
          show _ = _
          rw [val_take_succ HD.out, window_take HU.out]
          omega
        · have e := hbk.put32 (j + i) ((cy + (u + d)) % 4294967296)
          rw [window_set HLJ.out HF.out HU.out] at e
          simpa using e
      case measure => simp [intOf]; omega
    · obtain rfl : n = i := by omega
      go_wp2_with fail
      go_end0
      refine ⟨f ++ [(u + cy) % 4294967296], (u + cy) / 4294967296, by simp [HF.out], hlt.snoc (by omega), ?_, rfl, ?_, hbv.far hne _, grown_set hgr _ _⟩
      · have e := carry_step HF.out (u + cy)
        have e1 := HI.out
        rw [Nat.mul_add] at e
        rw [window_take HU.out]
        omega
      · have e := hbk.put32 (j + n) ((u + cy) % 4294967296)
        rw [window_set HLJ.out HF.out HU.out] at e
        simpa using e

end Go.Proofs.YthiogjpjkdnbjaaGreatDoor
