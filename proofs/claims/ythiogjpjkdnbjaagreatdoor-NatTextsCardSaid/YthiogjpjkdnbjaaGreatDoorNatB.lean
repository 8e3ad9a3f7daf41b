import Derived.Test.YthiogjpjkdnbjaaGreatDoorNatA
import Derived.Deep.DeepCutAuto
import Derived.Deep.LoopGhost
namespace Go.Proofs.YthiogjpjkdnbjaaGreatDoor
open Go.RowKit

theorem info_u32 : (Tryz.prog.info? 52).map (fun i => (i.zero, i.size, i.bytes)) = some (some (.int .u32 0), 1, 4) := by kernel_rfl

theorem make_u32 (n : Nat) (hn : n ≤ 10000000) (w : World) :
    (Instr.makeSlice 60 (.int .i64 (n : Int)) (.int .i64 (n : Int))).run Tryz.prog w = .ok (.slice (some ⟨w.heap.size, 0, none⟩) n n) (w.alloc (.cells (u32s (List.replicate n 0)) 52)) := by
  rw [← u32s_made]
  exact run_make_row' 60 52 (.int .u32 0) 4 Tryz.underlying60 info_u32 rfl .i64 .i64 n (by omega) (by omega) w

set_option maxHeartbeats 400000 in
theorem add_any (A : Option Addr) (n c : Nat) (xs : List Nat) (B : Option Addr) (m d : Nat) (ys : List Nat) (w : World) (h : Dig w A n c xs) (k : Dig w B m d ys) (hn : n ≤ 1000000) (hm : m ≤ 1000000) :
    Calls Tryz.prog 62 #[.slice A n c, .slice B m d] w fun e w' => Gives w' (val xs + val ys) e ∧ Below w.heap.size w w' := by
  go_enter Tryz.func62, Tryz.ntmps62
  go_upto_if 12 with fail
  go_cut [0, 1] (fun s t wx => ∃ A' n' c' xs' B' m' d' ys', s = .slice A' n' c' ∧ t = .slice B' m' d' ∧ Dig w A' n' c' xs' ∧ Dig w B' m' d' ys' ∧ n' ≤ 1000000 ∧ m' ≤ n' ∧ val xs' + val ys' = val xs + val ys ∧ w = wx)
  case first =>
    by_cases hlt : n < m
    · go_wp2_with fail
      go_meet
      exact ⟨B, m, d, ys, A, n, c, xs, rfl, rfl, k, h, hm, by omega, by omega, rfl⟩
    · go_wp2_with fail
      go_meet
      exact ⟨A, n, c, xs, B, m, d, ys, rfl, rfl, h, k, hn, by omega, by omega, rfl⟩
  case rest =>
    obtain ⟨A', n', c', xs', B', m', d', ys', rfl, rfl, h', k', hn', hm', hv, rfl⟩ := hcut
    have HV := Lib.hid hv
    clear hv
    have hmk := make_u32 (n' + 1) (by omega)
    rw [show ((n' + 1 : Nat) : Int) = (n' : Int) + 1 by omega] at hmk
    go_wp2_with fail
    go_loopw [6, 21] (fun s6 s21 wr => ∃ (i cy : Nat) (f : List Nat), i ≤ n' ∧ s21 = .int .i64 (i : Int) ∧ s6 = .int .u64 (cy : Int) ∧ cy ≤ 1 ∧ f.length = i ∧ Lt32 f ∧ Hid (val f + P32 i * cy = val (xs'.take i) + val (ys'.take i)) ∧ Blk wr w.heap.size 52 (u32s (f ++ List.replicate (n' + 1 - i) 0)) ∧ Below w.heap.size w wr) (fun _ s21 _ => n' - (intOf s21).toNat)
    case atStart => exact ⟨0, 0, [], by omega, rfl, rfl, by omega, rfl, Lt32.nil, by simp [Hid, val], Blk.new _ _ _, (Below.refl _ _).alloc (Nat.le_refl _) _⟩
    case round =>
      obtain ⟨i, cy, f, hi, rfl, rfl, hcy, hf, hlt, HI, hbk, hb⟩ := hrel
      by_cases hin : i < n'
      · obtain ⟨b, o, x, rfl, hx, hxl, hxc⟩ := (h'.below hb).get hin
        have HX := Lib.hid hx
        have HF := Lib.hid hf
        clear hx hf
        have hz : wr.cell? ⟨w.heap.size, i, none⟩ = some (.int .u32 ((0 : Nat) : Int)) := hbk.u32 (get_front HF.out (by omega))
        have hfz := hbk.frozen i
        by_cases him : i < m'
        · obtain ⟨b2, o2, y, rfl, hy, hyl, hyc⟩ := (k'.below hb).get him
          have HY := Lib.hid hy
          clear hy
          go_wp2_with fail
          go_roundw
          case rel =>
            refine ⟨i + 1, (cy + x + y) / 4294967296, f ++ [(cy + x + y) % 4294967296], by omega, by go_num, by go_num, by omega, by simp [HF.out], hlt.snoc (by omega), ?_, ?_, hb.setCell (Nat.le_refl _) _⟩
            · have e := carry_step HF.out (cy + x + y)
              have e1 := HI.out
              rw [Nat.mul_add, Nat.mul_add] at e
              show _ = _
              rw [val_take_succ HX.out, val_take_succ HY.out]
              omega
            · have e := hbk.put32 i ((cy + x + y) % 4294967296)
              rw [set_zero HF.out (show n' + 1 - i = (n' + 1 - (i + 1)) + 1 by omega)] at e
              simpa using e
          case measure => simp [intOf]; omega
        · go_wp2_with fail
          go_roundw
          case rel =>
            refine ⟨i + 1, (cy + x) / 4294967296, f ++ [(cy + x) % 4294967296], by omega, by go_num, by go_num, by omega, by simp [HF.out], hlt.snoc (by omega), ?_, ?_, hb.setCell (Nat.le_refl _) _⟩
            · have e := carry_step HF.out (cy + x)
              have e1 := HI.out
              have e2 := k'.len
              rw [Nat.mul_add] at e
              show _ = _
              rw [val_take_succ HX.out, val_take_all (xs := ys') (by omega)]
              rw [val_take_all (xs := ys') (by omega)] at e1
              omega
            · have e := hbk.put32 i ((cy + x) % 4294967296)
              rw [set_zero HF.out (show n' + 1 - i = (n' + 1 - (i + 1)) + 1 by omega)] at e
              simpa using e
          case measure => simp [intOf]; omega
      · obtain rfl : n' = i := by omega
        have hz : wr.cell? ⟨w.heap.size, n', none⟩ = some (.int .u32 ((0 : Nat) : Int)) := hbk.u32 (get_front hf (by omega))
        have hfz := hbk.frozen n'
        have HF := Lib.hid hf
        clear hf
        go_wp2_with fail
        have hbk2 : Blk (wr.setCell ⟨w.heap.size, n', none⟩ (.int .u32 (cy : Int))) w.heap.size 52 (u32s (f ++ [cy])) := by
          have e := hbk.put32 n' cy
          rw [set_zero HF.out (show n' + 1 - n' = 0 + 1 by omega)] at e
          simpa using e
        have hb2 := hb.setCell (p := ⟨w.heap.size, n', none⟩) (Nat.le_refl _) (.int .u32 (cy : Int))
        have hdg := hbk2.dig (hlt.snoc (by omega)) (n := n' + 1) (c := n' + 1) (by simp [HF.out]) (Nat.le_refl _)
        refine (trim_gives _ _ _ _ _ hdg (by omega)).mono ?_
        rintro e w' ⟨⟨A1, m1, c1, zs, rfl, hd1, ht1, hv1⟩, rfl⟩
        have HV1 := Lib.hid hv1
        clear hv1
        go_wp2_with fail
        go_ret
        refine ⟨⟨_, _, _, _, rfl, hd1, ht1, ?_⟩, hb2⟩
        rw [HV1.out, val_snoc, HF.out]
        have e1 := HI.out
        have e2 := h'.len
        have e3 := k'.len
        rw [val_take_all (by omega), val_take_all (by omega)] at e1
        have := HV.out
        omega

end Go.Proofs.YthiogjpjkdnbjaaGreatDoor
