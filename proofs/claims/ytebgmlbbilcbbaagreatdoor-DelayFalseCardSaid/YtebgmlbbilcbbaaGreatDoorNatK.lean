/- strip, digits, number: their contracts. -/
import Derived.Test.YtebgmlbbilcbbaaGreatDoorNatOne
import Derived.Test.YtebgmlbbilcbbaaGreatDoorPlainAll
import Derived.Test.YtebgmlbbilcbbaaGreatDoorShelf
import Derived.StillTailTactics
import Derived.BigRegion
namespace Go.Proofs.YtebgmlbbilcbbaaGreatDoor
open Go.RowKit

theorem trimLeftB_strip (l : List UInt8) : Lib.trimLeftB l 0 = strip0 l := rfl

set_option maxHeartbeats 400000 in
theorem strip_any (s : ByteArray) (w : World) :
    Calls Tryz.prog 173 #[.string s] w fun e w' => e = .returned (.string (natS (sval s))) ∧ w = w' := by
  have hc := Tryz.strings_TrimLeft_one s 0 (by decide) w
  rw [trimLeftB_strip, ← natS_sval] at hc
  have HC := Lib.hid hc
  clear hc
  go_enter Tryz.func173, Tryz.ntmps173
  go_wp2_with fail
  refine HC.out.mono ?_
  rintro e w' ⟨rfl, rfl⟩
  go_wp2_with fail
  go_ret
  exact ⟨rfl, rfl⟩

set_option maxHeartbeats 1000000 in
theorem digits_any (s : ByteArray) (w : World) (hs : s.size ≤ 1000000) :
    Calls Tryz.prog 133 #[.string s] w fun e w' => Gives w' (sval s) e ∧ Below w.heap.size w w' := by
  obtain ⟨m, hm⟩ : ∃ m, m = (s.size + 3) / 4 := ⟨_, rfl⟩
  have hmk := make_u32 m (by omega)
  have hm2 : ((s.size : Int) + 3) / 4 = (m : Int) := by omega
  have hm3 : s.size ≤ 4 * m := by omega
  have HM := Lib.hid hm
  clear hm
  go_enter Tryz.func133, Tryz.ntmps133
  go_wp2_with fail
  go_loopw [12] (fun s12 wr => ∃ (i : Nat) (zs : List Nat), i ≤ s.size ∧ s12 = .int .i64 (i : Int) ∧ zs.length = m ∧ Lt32 zs ∧ Hid (val zs = lv (s.data.toList.reverse.take i)) ∧ Blk wr w.heap.size 140 (u32s zs) ∧ Below w.heap.size w wr) (fun s12 _ => s.size - (intOf s12).toNat)
  case atStart => exact ⟨0, List.replicate m 0, by omega, rfl, by simp, Lt32.zeros _, by show _ = _; rw [val_zeros]; rfl, Blk.new _ _ _, (Below.refl _ _).alloc (Nat.le_refl _) _⟩
  case round =>
    obtain ⟨i, zs, hi, rfl, hzl, hlt, HI, hbk, hb⟩ := hrel
    have HZL := Lib.hid hzl
    clear hzl
    by_cases hin : i < s.size
    · obtain ⟨d, hd⟩ : ∃ d, zs[i / 4]? = some d := ⟨_, List.getElem?_eq_getElem (by rw [HZL.out]; omega)⟩
      have hdc := hbk.u32 hd
      have hdf := hbk.frozen (i / 4)
      have hdl := hlt _ _ hd
      have HD := Lib.hid hd
      clear hd
      have f1 : (0 : Int) ≤ (i : Int) / 4 := by omega
      have f2 : (i : Int) / 4 < (m : Int) := by omega
      obtain ⟨j, hj⟩ : ∃ j, j = s.size - 1 - i := ⟨_, rfl⟩
      have hj2 : (s.size : Int) - 1 - i = (j : Int) := by omega
      have hjl : j < s.size := by omega
      have hjl2 : (j : Int) < (s.size : Int) := by omega
      have hj0 : (0 : Int) ≤ (j : Int) := by omega
      have HJ := Lib.hid hj
      clear hj
      go_upto_region 5 with fail
      go_region
      have hr4 : i % 4 < 4 := by omega
      have hP := P8_cases (i % 4) hr4
      have hvl : val zs < P8 i := by
        rw [HI.out]
        have := lv_lt (s.data.toList.reverse.take i)
        rw [List.length_take, List.length_reverse, Array.length_toList, Nat.min_eq_left (show i ≤ s.data.size from hi)] at this
        exact this
      have hdP := digit_lt HD.out hvl
      have hbl := s[j].toNat_lt
      have hsum : d + s[j].toNat * P8 (i % 4) < 4294967296 := by
        have h1 : s[j].toNat * P8 (i % 4) ≤ 255 * P8 (i % 4) := Nat.mul_le_mul_right _ (by omega)
        omega
      have hval : bits BinOp.or IntKind.u32 (d : Int) ((s[j].toNat : Int) % 4294967296 * 2 ^ (i % 4 * 8) % 4294967296) = ((d + s[j].toNat * P8 (i % 4) : Nat) : Int) := by
        have e := u32_or_nat d (s[j].toNat * P8 (i % 4)) (by omega) (by omega)
        rw [P8_two, or_lo _ _ _ (by rw [← P8_two]; exact hdP), ← P8_two] at e
        rw [← e]
        congr 1
        have e2 : (s[j].toNat : Int) % 4294967296 = (s[j].toNat : Int) := by omega
        rw [e2, P8_two]
        have e3 : (s[j].toNat : Int) * 2 ^ (i % 4 * 8) = ((s[j].toNat * 2 ^ (i % 4 * 8) : Nat) : Int) := by simp
        rw [e3, ← P8_two]
        omega
      rw [hval]
      obtain ⟨D, hD⟩ : ∃ D, D = d + s[j].toNat * P8 (i % 4) := ⟨_, rfl⟩
      rw [← hD] at hsum ⊢
      have HDD := Lib.hid hD
      clear hD hval hP hdP hbl hvl
      go_wp2_with fail
      go_roundw
      case rel =>
        refine ⟨i + 1, zs.set (i / 4) D, by omega, by go_num, by simp [HZL.out], hlt.set hsum, ?_, hbk.put32 _ _, (hb.setCell (Nat.le_refl _) _).drew⟩
        show _ = _
        rw [HDD.out, digit_put HD.out, lv_take_succ (rev_byte s HJ.out hin hjl), HI.out]
      case measure => simp [intOf]; omega
    · obtain rfl : i = s.size := by omega
      have hdg := hbk.dig hlt (n := m) (c := m) HZL.out (Nat.le_refl _)
      go_wp2_with fail
      refine (trim_gives _ _ _ _ _ hdg (by have := HM.out; omega)).mono ?_
      rintro e w' ⟨⟨A1, m1, c1, zs', rfl, hd1, ht1, hv1⟩, rfl⟩
      have HV1 := Lib.hid hv1
      clear hv1
      go_wp2_with fail
      go_ret
      refine ⟨⟨_, _, _, _, rfl, hd1, ht1, ?_⟩, hb⟩
      rw [HV1.out, HI.out, List.take_of_length_le (by rw [List.length_reverse, Array.length_toList]; exact Nat.le_refl _)]
      rfl

theorem info_u8 : (Tryz.prog.info? 5).map (fun i => (i.zero, i.size, i.bytes)) = some (some (.int .u8 0), 1, 1) := by kernel_rfl

/-- Cells that hold bytes. -/
def u8s (l : List UInt8) : Array Value := (l.map fun b : UInt8 => Value.int .u8 (b.toNat : Int)).toArray
theorem u8s_get {l : List UInt8} {i : Nat} {b : UInt8} (h : l[i]? = some b) : (u8s l)[i]? = some (.int .u8 (b.toNat : Int)) := by simp [u8s, h]
theorem u8s_set (l : List UInt8) (i : Nat) (b : UInt8) : (u8s l).setIfInBounds i (.int .u8 (b.toNat : Int)) = u8s (l.set i b) := by simp [u8s, List.map_set]
theorem u8s_made (n : Nat) : madeCells #[.int .u8 0] n = u8s (List.replicate n 0) := by
  apply Array.toList_inj.1
  rw [toList_madeCells_one]
  simp [u8s]
theorem Blk.u8 {w : World} {g : Nat} {t : TypeId} {l : List UInt8} (h : Blk w g t (u8s l)) {i : Nat} {b : UInt8} (hd : l[i]? = some b) : w.cell? ⟨g, i, none⟩ = some (.int .u8 (b.toNat : Int)) := (h.cell i).trans (u8s_get hd)
theorem Blk.put8 {w : World} {g : Nat} {t : TypeId} {l : List UInt8} (h : Blk w g t (u8s l)) (i : Nat) (b : UInt8) : Blk (w.setCell ⟨g, i, none⟩ (.int .u8 (b.toNat : Int))) g t (u8s (l.set i b)) := by
  have := h.set_ i (.int .u8 (b.toNat : Int))
  rwa [u8s_set] at this

theorem make_u8 (n : Nat) (hn : n ≤ 100000000) (w : World) :
    (Instr.makeSlice 22 (.int .i64 (n : Int)) (.int .i64 (n : Int))).run Tryz.prog w = .ok (.slice (some ⟨w.heap.size, 0, none⟩) n n) (w.alloc (.cells (u8s (List.replicate n 0)) 5)) := by
  rw [← u8s_made]
  exact run_make_row' 22 5 (.int .u8 0) 1 Tryz.underlying22 info_u8 rfl .i64 .i64 n (by omega) (by omega) w

theorem push_all : ∀ (l : List UInt8) (s : ByteArray), (l.map fun b : UInt8 => (b.toNat : Int)).foldl (fun r n => r.push (UInt8.ofNat n.toNat)) s = ⟨(s.data.toList ++ l).toArray⟩
  | [], s => by simp
  | b :: t, s => by
    rw [List.map_cons, List.foldl_cons, push_all t]
    simp

/-- string(b): the bytes of a block. -/
theorem run_bytes_str (w : World) (g n cap : Nat) (l : List UInt8) (h : Blk w g 5 (u8s l)) (hl : l.length = n) :
    (convert 22 9 (.slice (some ⟨g, 0, none⟩) n cap)).run Tryz.prog w = .ok (.string ⟨l.toArray⟩) w := by
  rw [run_convert_bytes_string w 22 9 5 _ _ _ Tryz.underlying22 Tryz.underlying5 Tryz.underlying9]
  have hld := run_loadCells_list (P := Tryz.prog) w ⟨g, 0, none⟩ ((l.map fun b : UInt8 => (b.toNat : Int)).map (Value.int .u8)) (fun j v hv => by
    rw [List.map_map, List.getElem?_map] at hv
    obtain ⟨b, hb, rfl⟩ := Option.map_eq_some_iff.1 hv
    rw [add_addr, Nat.zero_add]
    exact h.u8 hb)
  rw [List.length_map, List.length_map, hl] at hld
  rw [run_bytesToString w _ n cap _ hld, push_all]
  simp

set_option maxHeartbeats 1000000 in
theorem number_any (A : Option Addr) (n c : Nat) (xs : List Nat) (w : World) (h : Dig w A n c xs) (hn : n ≤ 1000000) :
    Calls Tryz.prog 147 #[.slice A n c] w fun e w' => e = .returned (.string (natS (val xs))) ∧ Below w.heap.size w w' := by
  have hmk := make_u8 (4 * n) (by omega)
  rw [show ((4 * n : Nat) : Int) = 4 * (n : Int) by omega] at hmk
  go_enter Tryz.func147, Tryz.ntmps147
  go_wp2_with fail
  go_loopw [11] (fun s11 wr => ∃ (i : Nat) (bs : List UInt8), i ≤ 4 * n ∧ s11 = .int .i64 (i : Int) ∧ bs.length = i ∧ Hid (bv bs = val xs % P8 i) ∧ Blk wr w.heap.size 5 (u8s (List.replicate (4 * n - i) 0 ++ bs)) ∧ Below w.heap.size w wr) (fun s11 _ => 4 * n - (intOf s11).toNat)
  case atStart => exact ⟨0, [], by omega, rfl, rfl, by show _ = _; rw [P8_zero, Nat.mod_one]; rfl, by simpa using Blk.new _ _ _, (Below.refl _ _).alloc (Nat.le_refl _) _⟩
  case round =>
    obtain ⟨i, bs, hi, rfl, hbl, HI, hbk, hb⟩ := hrel
    have HBL := Lib.hid hbl
    clear hbl
    by_cases hin : i < 4 * n
    · obtain ⟨b, o, x, rfl, hx, hxl, hxc⟩ := (h.below hb).get (k := i / 4) (by omega)
      have HX := Lib.hid hx
      clear hx
      obtain ⟨j, hj⟩ : ∃ j, j = 4 * n - 1 - i := ⟨_, rfl⟩
      have hj2 : 4 * (n : Int) - 1 - i = (j : Int) := by omega
      have hjl : (j : Int) < 4 * (n : Int) := by omega
      have hj0 : (0 : Int) ≤ (j : Int) := by omega
      have hcell : wr.cell? ⟨w.heap.size, j, none⟩ = some (.int .u8 (((0 : UInt8).toNat : Nat) : Int)) := hbk.u8 (by rw [List.getElem?_append_left (by simp; omega), List.getElem?_replicate, if_pos (by omega)])
      have hfz := hbk.frozen j
      have HJ := Lib.hid hj
      clear hj
      go_wp2_with fail
      go_roundw
      case rel =>
        have hxb : x / P8 (i % 4) % 256 < 256 := Nat.mod_lt _ (by omega)
        refine ⟨i + 1, UInt8.ofNat (x / P8 (i % 4) % 256) :: bs, by omega, by go_num, by simp [HBL.out], ?_, ?_, hb.setCell (Nat.le_refl _) _⟩
        · show _ = _
          rw [bv_cons, HBL.out, HI.out, mod_step, byte_of HX.out h.lt, UInt8.toNat_ofNat', Nat.mod_eq_of_lt (show x / P8 (i % 4) % 256 < 2 ^ 8 from hxb), Nat.mul_comm]
          omega
        · have e := hbk.put8 j (UInt8.ofNat (x / P8 (i % 4) % 256))
          have e2 : (List.replicate (4 * n - i) (0 : UInt8) ++ bs).set j (UInt8.ofNat (x / P8 (i % 4) % 256)) = List.replicate (4 * n - (i + 1)) 0 ++ UInt8.ofNat (x / P8 (i % 4) % 256) :: bs := by
            rw [show 4 * n - i = (4 * n - (i + 1)) + 1 by omega, List.replicate_succ', List.append_assoc, List.singleton_append, show j = (List.replicate (4 * n - (i + 1)) (0 : UInt8)).length by rw [List.length_replicate, HJ.out]; omega, List.set_append_right _ _ (Nat.le_refl _), Nat.sub_self]
            simp
          rw [e2, UInt8.toNat_ofNat', Nat.mod_eq_of_lt (show x / P8 (i % 4) % 256 < 2 ^ 8 from hxb)] at e
          have e3 : ((x / P8 (i % 4) % 256 : Nat) : Int) = (x : Int) / 2 ^ (i % 4 * 8) % 256 := by rw [P8_two]; simp
          rw [e3] at e
          exact e
      case measure => simp [intOf]; omega
    · obtain rfl : i = 4 * n := by omega
      rw [Nat.sub_self, List.replicate_zero, List.nil_append] at hbk
      have hcv := run_bytes_str wr w.heap.size (4 * n) (4 * n) bs hbk HBL.out
      go_wp2_with fail
      refine (strip_any _ _).mono ?_
      rintro e w' ⟨rfl, rfl⟩
      go_wp2_with fail
      go_ret
      have e : sval ⟨bs.toArray⟩ = val xs := by
        have h1 := val_lt h.lt
        rw [h.len, P32_P8] at h1
        show bv bs.toArray.toList = _
        rw [List.toList_toArray, HI.out, Nat.mod_eq_of_lt h1]
      rw [e]
      exact ⟨rfl, hb⟩

end Go.Proofs.YtebgmlbbilcbbaaGreatDoor
