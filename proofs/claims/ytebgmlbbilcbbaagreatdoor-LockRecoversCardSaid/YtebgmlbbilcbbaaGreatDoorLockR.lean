/- The law LockRecovers. -/
import Derived.Test.YtebgmlbbilcbbaaGreatDoorLockP
namespace Go.Proofs.YtebgmlbbilcbbaaGreatDoor
open Go.RowKit
attribute [local go_sem] Oper.semAt_some

theorem made_all (who round : Int) (s : ByteArray) (sq : Nat) (h1 : I64 who) (h2 : I64 round) (hs : s.size ≤ 100) (h3 : 1 ≤ sq) (h4 : sq ≤ 1048576) :
    ∃ c : Com, c.hash.length = 32 ∧ c.who = who ∧ (strB c.box).size = s.size ∧
      RetT 50 #[.int .i64 who, .int .i64 round, .string s, .int .i64 (sq : Int)] (.tuple #[.agg (comA c), .bool true]) ∧
      RetT 52 #[.agg (comA c), .int .i64 round, .int .i64 (sq : Int)] (.tuple #[.string s, .bool true]) ∧
      RetT 53 #[.agg (comA c), .int .i64 round, .string s] (.bool true) := by
  have hl := made_len who round s.data.toList sq
  have hb := made_box who round s.data.toList sq
  have hw : I64 (comMade who round s.data.toList sq).who := h1
  have r := Recover_yes (comMade who round s.data.toList sq) round sq hl hw h2 (by rw [hb, size_len]; exact hs) h3 h4
  rw [made_recover, show strB s.data.toList = s from bytes_eq (strB_list _)] at r
  have o := Opens_q (comMade who round s.data.toList sq) round s hl hw h2 (by omega)
  rw [made_opens] at o
  exact ⟨_, hl, rfl, by rw [strB_size, hb, size_len], Commit_yes who round s sq h1 h2 hs h3 h4, r, o⟩

set_option maxRecDepth 100000 in
set_option maxHeartbeats 4000000 in
theorem LockRecovers_any (who round : Int) (s : ByteArray) (u : Nat) (w : World) (hT : Tabs w) (h1 : I64 who) (h2 : I64 round) (hs : s.size ≤ 9223372036854775807) (hu : u ≤ 255) :
    Calls Tryz.prog 10 #[.agg #[.int .i64 who, .int .i64 round], .string s, .int .u8 (u : Int)] w fun e w' => e = .returned (.bool true) ∧ Below w.heap.size w w' := by
  have HT := Lib.hid hT
  clear hT
  have ms := Lib.hid sanity11
  have mc : Hid (Ret 49 #[.string s, .int .i64 100] (.string (cutS s 100))) := Lib.hid (cut_q s 100 hs (by omega))
  have ht := cutS_le s 100
  generalize cutS s 100 = t at mc ht
  obtain ⟨n, hn⟩ : ∃ n : Nat, (n : Int) = 1 + (u : Int) % 12 := ⟨1 + u % 12, by omega⟩
  obtain ⟨c, hc, hwho, hbox, m1, m2, m3⟩ := made_all who round t n h1 h2 ht (by omega) (by omega)
  have HC := Lib.hid hc
  have M1 := Lib.hid m1
  have M2 := Lib.hid m2
  have M3 := Lib.hid m3
  clear m1 m2 m3
  go_enter Tryz.func10, Tryz.ntmps10
  go_upto_region 1 with fail
  refine nameOne _ rfl ?_
  intro w0 kA hB
  obtain ⟨BA, hBA⟩ : ∃ B, B = w.heap.size := ⟨_, rfl⟩
  rw [← hBA] at kA ⊢
  clear hBA
  go_upto_region 4 with (first
    | (go_at_call 48; (with_reducible refine (ms.out _ ?_).mono ?_); exact HT.out.below hB; rintro e wz ⟨rfl, hb⟩; replace kA := kA.below hb kA.lt; replace hB := below_then hB hb; clear hb)
    | (go_at_call 49; (with_reducible refine (mc.out _).mono ?_); rintro e wz ⟨rfl, hb⟩; replace kA := kA.below hb kA.lt; replace hB := below_then hB hb; clear hb))
  rw [← hn]
  clear hn
  have c0 : wz.cell? ⟨BA, 0, none⟩ = some (.int .i64 who) := kA.cell 0
  have c1 : wz.cell? ⟨BA, 1, none⟩ = some (.int .i64 round) := kA.cell 1
  go_upto_region 5 with (first
    | (go_at_call 50; (with_reducible refine (M1.out _ ?_).mono ?_); exact HT.out.below hB; rintro e wy ⟨rfl, hb⟩; replace kA := kA.below hb kA.lt; replace hB := below_then hB hb; clear hb)
    | (refine wpList_store_rowTo rfl 73 _ _ rfl rfl _ (comA c) rfl rfl _ _ (Blk.new _ _ _) (by rw [comA_size (c := c) HC.out]; exact com_size) (by rw [comA_size (c := c) HC.out]; rfl) (comA_one _) ?_))
  refine nameStored (comA c) ?_
  intro w1 k1 hb
  have hgC : w.heap.size ≤ wy.heap.size := hB.size
  replace hB := below_then hB hb
  replace kA := kA.below hb kA.lt
  clear hb c0 c1
  generalize wy.heap.size = C at k1 hgC ⊢
  have c1 : w1.cell? ⟨BA, 1, none⟩ = some (.int .i64 round) := kA.cell 1
  go_upto_region 6 with (first
    | (go_at_call 52; (with_reducible refine (M2.out _ ?_).mono ?_); exact HT.out.below hB; rintro e wx ⟨rfl, hb⟩; replace k1 := k1.below hb k1.lt; replace kA := kA.below hb kA.lt; replace hB := below_then hB hb; clear hb)
    | (refine wpList_load_row rfl 73 _ rfl C rfl _ (comA c) (0, 0) _ k1 Tryz.underlying73 rfl (by rw [comA_size (c := c) HC.out]; exact com_size) ?_))
  clear c1
  have c0 : wx.cell? ⟨BA, 0, none⟩ = some (.int .i64 who) := kA.cell 0
  have c1 : wx.cell? ⟨BA, 1, none⟩ = some (.int .i64 round) := kA.cell 1
  have d0 : wx.cell? ⟨C, 0, none⟩ = some (.int .i64 who) := hwho ▸ (k1.cell 0).trans (com_who c)
  have d33 : wx.cell? ⟨C, 33, none⟩ = some (.string (strB c.box)) := (k1.cell 33).trans (com_box HC.out)
  go_wp2_with (first
    | (refine wpList_load_rowG (by rfl) 73 _ rfl _ rfl C rfl _ (comA c) (0, 0) _ k1 Tryz.underlying73 rfl (by rw [comA_size (c := c) HC.out]; exact com_size) ?_)
    | (go_at_call 53; (with_reducible refine (M3.out _ ?_).mono ?_); exact HT.out.below hB; rintro e wv ⟨rfl, hb⟩; replace k1 := k1.below hb k1.lt; replace hB := below_then hB hb; clear hb))
  go_ret
  exact ⟨by simp, hB⟩

end Go.Proofs.YtebgmlbbilcbbaaGreatDoor
