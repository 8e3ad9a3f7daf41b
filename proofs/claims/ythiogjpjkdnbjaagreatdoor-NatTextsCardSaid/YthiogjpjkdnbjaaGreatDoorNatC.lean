/- subtract, compare, split, join, pad: their contracts. -/
import Derived.Test.YthiogjpjkdnbjaaGreatDoorNatB
import Derived.Deep.QuietTactic
import Derived.BigQuiet
namespace Go.Proofs.YthiogjpjkdnbjaaGreatDoor
open Go.RowKit

set_option maxHeartbeats 400000 in
theorem subtract_any (A : Option Addr) (n c : Nat) (xs : List Nat) (B : Option Addr) (m d : Nat) (ys : List Nat) (w : World) (h : Dig w A n c xs) (k : Dig w B m d ys) (hn : n ≤ 1000000) (hm : m ≤ n) (hle : val ys ≤ val xs) :
    Calls Tryz.prog 68 #[.slice A n c, .slice B m d] w fun e w' => Gives w' (val xs - val ys) e ∧ Below w.heap.size w w' := by
  have HLE := Lib.hid hle
  clear hle
  have hmk := make_u32 n (by omega)
  go_enter Tryz.func68, Tryz.ntmps68
  go_wp2_with fail
  go_loopw [6, 14] (fun s6 s14 wr => ∃ (i cy : Nat) (f : List Nat), i ≤ n ∧ s14 = .int .i64 (i : Int) ∧ s6 = .int .u64 (cy : Int) ∧ cy ≤ 1 ∧ f.length = i ∧ Lt32 f ∧ Hid (val f + val (ys.take i) = val (xs.take i) + P32 i * cy) ∧ Blk wr w.heap.size 52 (u32s (f ++ List.replicate (n - i) 0)) ∧ Below w.heap.size w wr) (fun _ s14 _ => n - (intOf s14).toNat)
  case atStart => exact ⟨0, 0, [], by omega, rfl, rfl, by omega, rfl, Lt32.nil, by simp [Hid, val], Blk.new _ _ _, (Below.refl _ _).alloc (Nat.le_refl _) _⟩
  case round =>
    obtain ⟨i, cy, f, hi, rfl, rfl, hcy, hf, hlt, HI, hbk, hb⟩ := hrel
    by_cases hin : i < n
    · obtain ⟨b, o, x, rfl, hx, hxl, hxc⟩ := (h.below hb).get hin
      have HX := Lib.hid hx
      have HF := Lib.hid hf
      clear hx hf
      have hz : wr.cell? ⟨w.heap.size, i, none⟩ = some (.int .u32 ((0 : Nat) : Int)) := hbk.u32 (get_front HF.out (by omega))
      have hfz := hbk.frozen i
      by_cases him : i < m
      · obtain ⟨b2, o2, y, rfl, hy, hyl, hyc⟩ := (k.below hb).get him
        have HY := Lib.hid hy
        clear hy
        by_cases hge : cy + y ≤ x
        · go_wp2_with fail
          go_roundw
          case rel =>
            refine ⟨i + 1, 0, f ++ [x - cy - y], by omega, by go_num, ?_, by omega, by simp [HF.out], hlt.snoc (by omega), ?_, ?_, hb.setCell (Nat.le_refl _) _⟩
            · exact congrArg (Value.int .u64) (show ((x : Int) - cy - y) / 9223372036854775808 = _ by omega)
            · have e1 := HI.out
              have e := borrow_step (y := y) (x := x) (v := x - cy - y) (cy' := 0) HF.out e1 (by omega)
              show _ = _
              rw [val_take_succ HX.out, val_take_succ HY.out]
              omega
            · have e := hbk.put32 i (x - cy - y)
              rw [set_zero HF.out (show n - i = (n - (i + 1)) + 1 by omega)] at e
              rw [show ((x - cy - y : Nat) : Int) = (x : Int) - cy - y by omega] at e
              exact e
          case measure => simp [intOf]; omega
        · go_wp2_with fail
          go_roundw
          case rel =>
            refine ⟨i + 1, 1, f ++ [x + 4294967296 - cy - y], by omega, by go_num, ?_, by omega, by simp [HF.out], hlt.snoc (by omega), ?_, ?_, hb.setCell (Nat.le_refl _) _⟩
            · exact congrArg (Value.int .u64) (show IntKind.u64.wrap (IntKind.u64.wrap ((x : Int) - cy) - y) / 9223372036854775808 = _ by rw [u64_sub, u64_neg _ (by omega) (by omega)]; omega)
            · have e1 := HI.out
              have e := borrow_step (y := y) (x := x) (v := x + 4294967296 - cy - y) (cy' := 1) HF.out e1 (by omega)
              show _ = _
              rw [val_take_succ HX.out, val_take_succ HY.out]
              omega
            · have e := hbk.put32 i (x + 4294967296 - cy - y)
              rw [set_zero HF.out (show n - i = (n - (i + 1)) + 1 by omega)] at e
              rw [show ((x + 4294967296 - cy - y : Nat) : Int) = IntKind.u64.wrap (IntKind.u64.wrap ((x : Int) - cy) - y) % 4294967296 by rw [u64_sub, u64_neg _ (by omega) (by omega)]; omega] at e
              exact e
          case measure => simp [intOf]; omega
      · by_cases hge : cy ≤ x
        · go_wp2_with fail
          go_roundw
          case rel =>
            refine ⟨i + 1, 0, f ++ [x - cy], by omega, by go_num, ?_, by omega, by simp [HF.out], hlt.snoc (by omega), ?_, ?_, hb.setCell (Nat.le_refl _) _⟩
            · exact congrArg (Value.int .u64) (show ((x : Int) - cy) / 9223372036854775808 = _ by omega)
            · have e1 := HI.out
              have e2 := k.len
              rw [val_take_all (xs := ys) (by omega)] at e1
              have e := borrow_step (y := 0) (x := x) (v := x - cy) (cy' := 0) HF.out e1 (by omega)
              show _ = _
              rw [val_take_succ HX.out, val_take_all (xs := ys) (by omega)]
              omega
            · have e := hbk.put32 i (x - cy)
              rw [set_zero HF.out (show n - i = (n - (i + 1)) + 1 by omega)] at e
              rw [show ((x - cy : Nat) : Int) = (x : Int) - cy by omega] at e
              exact e
          case measure => simp [intOf]; omega
        · go_wp2_with fail
          go_roundw
          case rel =>
            refine ⟨i + 1, 1, f ++ [x + 4294967296 - cy], by omega, by go_num, ?_, by omega, by simp [HF.out], hlt.snoc (by omega), ?_, ?_, hb.setCell (Nat.le_refl _) _⟩
            · exact congrArg (Value.int .u64) (show IntKind.u64.wrap ((x : Int) - cy) / 9223372036854775808 = _ by rw [u64_neg _ (by omega) (by omega)]; omega)
            · have e1 := HI.out
              have e2 := k.len
              rw [val_take_all (xs := ys) (by omega)] at e1
              have e := borrow_step (y := 0) (x := x) (v := x + 4294967296 - cy) (cy' := 1) HF.out e1 (by omega)
              show _ = _
              rw [val_take_succ HX.out, val_take_all (xs := ys) (by omega)]
              omega
            · have e := hbk.put32 i (x + 4294967296 - cy)
              rw [set_zero HF.out (show n - i = (n - (i + 1)) + 1 by omega)] at e
              rw [show ((x + 4294967296 - cy : Nat) : Int) = IntKind.u64.wrap ((x : Int) - cy) % 4294967296 by rw [u64_neg _ (by omega) (by omega)]; omega] at e
              exact e
          case measure => simp [intOf]; omega
    · obtain rfl : n = i := by omega
      rw [Nat.sub_self, List.replicate_zero, List.append_nil] at hbk
      have hdg := hbk.dig hlt (n := n) (c := n) hf (Nat.le_refl _)
      have HF := Lib.hid hf
      clear hf
      go_wp2_with fail
      refine (trim_gives _ _ _ _ _ hdg (by omega)).mono ?_
      rintro e w' ⟨⟨A1, m1, c1, zs, rfl, hd1, ht1, hv1⟩, rfl⟩
      have HV1 := Lib.hid hv1
      clear hv1
      go_wp2_with fail
      go_ret
      refine ⟨⟨_, _, _, _, rfl, hd1, ht1, ?_⟩, hb⟩
      rw [HV1.out]
      have e1 := HI.out
      have e2 := h.len
      have e3 := k.len
      rw [val_take_all (by omega), val_take_all (by omega)] at e1
      have := HLE.out
      have h2 := val_lt hlt
      rw [HF.out] at h2
      have h3 := val_lt h.lt
      rw [e2] at h3
      have : cy = 0 := by
        rcases Nat.lt_or_ge 0 cy with h0 | h0
        · obtain rfl : cy = 1 := by omega
          omega
        · omega
      subst this
      omega

set_option maxHeartbeats 400000 in
theorem compare_any (A : Option Addr) (n c : Nat) (xs : List Nat) (B : Option Addr) (m d : Nat) (ys : List Nat) (w : World) (h : Dig w A n c xs) (k : Dig w B m d ys) (hn : n ≤ 1000000) (hm : m ≤ 1000000) (tx : Trim xs) (ty : Trim ys) :
    Calls Tryz.prog 67 #[.slice A n c, .slice B m d] w fun e w' => e = .returned (.int .i64 (cmpI (val xs) (val ys))) ∧ Below w.heap.size w w' := by
  have lx := h.len
  have ly := k.len
  have LX := Lib.hid lx
  have LY := Lib.hid ly
  rcases Nat.lt_trichotomy n m with hlt | heq | hgt
  · have hv := ty.lt_of_len h.lt (by omega : xs.length < ys.length)
    clear lx ly
    have hb : ((n : Int) != (m : Int)) = true := by simp; omega
    go_enter Tryz.func67, Tryz.ntmps67
    go_wp2_with fail
    go_ret
    exact ⟨by rw [cmpI_lt hv]; rfl, Below.refl _ _⟩
  · subst heq
    clear lx ly
    go_enter Tryz.func67, Tryz.ntmps67
    go_wp2_with fail
    go_loopw [5] (fun s5 wr => ∃ i : Nat, i ≤ n ∧ s5 = .int .i64 ((i : Int) - 1) ∧ Hid (xs.drop i = ys.drop i) ∧ Below w.heap.size w wr) (fun s5 _ => (intOf s5 + 1).toNat)
    case atStart => exact ⟨n, Nat.le_refl _, rfl, by show _ = _; rw [List.drop_of_length_le (by rw [LX.out]; omega), List.drop_of_length_le (by rw [LY.out]; omega)], Below.refl _ _⟩
    case round =>
      obtain ⟨i, hi, rfl, HD, hb⟩ := hrel
      by_cases h0 : 0 < i
      · obtain ⟨b, o, x, rfl, hx, hxl, hxc⟩ := (h.below hb).get (k := i - 1) (by omega)
        obtain ⟨b2, o2, y, rfl, hy, hyl, hyc⟩ := (k.below hb).get (k := i - 1) (by omega)
        have HX := Lib.hid hx
        have HY := Lib.hid hy
        clear hx hy
        rcases Nat.lt_trichotomy x y with c1 | c1 | c1
        · have hne : ((x : Int) != (y : Int)) = true := by simp; omega
          go_wp2_with fail
          go_quiet (fail)
          go_wp2_with fail
          go_quiet (fail)
          go_wp2_with fail
          go_ret
          have hv := val_lt_at HX.out HY.out (by rw [show i - 1 + 1 = i by omega]; exact HD.out) h.lt c1
          exact ⟨by rw [cmpI_lt hv]; rfl, below_drewN (below_drewN hb _) _⟩
        · subst c1
          go_wp2_with fail
          go_quiet (fail)
          go_wp2_with fail
          go_roundw
          case rel =>
            refine ⟨i - 1, by omega, by go_num, ?_, below_drewN hb _⟩
            show _ = _
            rw [drop_cons HX.out, drop_cons HY.out, show i - 1 + 1 = i by omega, HD.out]
          case measure => simp [intOf]; omega
        · have hne : ((x : Int) != (y : Int)) = true := by simp; omega
          go_wp2_with fail
          go_quiet (fail)
          go_wp2_with fail
          go_quiet (fail)
          go_wp2_with fail
          go_ret
          have hv := val_lt_at HY.out HX.out (by rw [show i - 1 + 1 = i by omega]; exact HD.out.symm) k.lt c1
          exact ⟨by rw [cmpI_gt hv]; rfl, below_drewN (below_drewN hb _) _⟩
      · obtain rfl : i = 0 := by omega
        go_wp2_with fail
        go_ret
        have hv : xs = ys := HD.out
        exact ⟨by rw [cmpI_eq (by rw [hv])]; rfl, hb⟩
  · have hv := tx.lt_of_len k.lt (by omega : ys.length < xs.length)
    clear lx ly
    have hb : ((n : Int) != (m : Int)) = true := by simp; omega
    go_enter Tryz.func67, Tryz.ntmps67
    go_wp2_with fail
    go_ret
    exact ⟨by rw [cmpI_gt hv]; rfl, Below.refl _ _⟩

end Go.Proofs.YthiogjpjkdnbjaaGreatDoor
