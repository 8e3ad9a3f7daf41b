/- The law LockCommits. -/
import Derived.Test.YtebgmlbbilcbbaaGreatDoorLockP
namespace Go.Proofs.YtebgmlbbilcbbaaGreatDoor
open Go.RowKit
attribute [local go_sem] Oper.semAt_some

theorem commit_both (who round : Int) (s : ByteArray) (sq : Int) (h1 : I64 who) (h2 : I64 round) (hs : s.size ≤ 9223372036854775807) :
    ∃ (c : Com) (b : Bool), c.hash.length = 32 ∧ RetT 50 #[.int .i64 who, .int .i64 round, .string s, .int .i64 sq] (.tuple #[.agg (comA c), .bool b]) ∧
      Ret 51 #[.int .i64 who, .int .i64 round, .string s, .int .i64 sq] (.tuple #[.agg (comA c), .bool b]) := by
  cases h : okSq s.size sq with
  | true =>
    obtain ⟨a1, a2, a3⟩ := of_decide_eq_true h
    obtain ⟨k, rfl⟩ := Int.eq_ofNat_of_zero_le (show 0 ≤ sq by omega)
    exact ⟨_, true, made_len _ _ _ _, Commit_yes who round s k h1 h2 a1 (by omega) (by omega), rCommit_yes who round s k h1 h2 a1 (by omega) (by omega)⟩
  | false => exact ⟨comZero, false, rfl, fun W _ => Commit_no who round s sq hs h W, rCommit_no who round s sq hs h⟩

set_option maxRecDepth 100000 in
set_option maxHeartbeats 4000000 in
theorem LockCommits_any (who round : Int) (s : ByteArray) (u : Nat) (w : World) (hT : Tabs w) (h1 : I64 who) (h2 : I64 round) (hs : s.size ≤ 9223372036854775807) (hu : u ≤ 255) :
    Calls Tryz.prog 9 #[.agg #[.int .i64 who, .int .i64 round], .string s, .int .u8 (u : Int)] w fun e w' => e = .returned (.bool true) ∧ Below w.heap.size w w' := by
  have HT := Lib.hid hT
  clear hT
  have ms := Lib.hid sanity11
  have mc : Hid (Ret 49 #[.string s, .int .i64 102] (.string (cutS s 102))) := Lib.hid (cut_q s 102 hs (by omega))
  have ht := cutS_le s 102
  generalize cutS s 102 = t at mc ht
  obtain ⟨n, hn⟩ : ∃ n : Int, n = (u : Int) % 14 - 1 := ⟨_, rfl⟩
  obtain ⟨c, b, hc, m1, m2⟩ := commit_both who round t n h1 h2 (by omega)
  have HC := Lib.hid hc
  have M1 := Lib.hid m1
  have M2 := Lib.hid m2
  have hEq := fun w => run_eq_com hc hc 9997 w
  clear m1 m2 hc
  go_enter Tryz.func9, Tryz.ntmps9
  go_upto_region 1 with fail
  refine nameOne _ rfl ?_
  intro w0 kA hB
  obtain ⟨BA, hBA⟩ : ∃ B, B = w.heap.size := ⟨_, rfl⟩
  rw [← hBA] at kA ⊢
  clear hBA
  go_upto_region 4 with (first
    | (go_at_call 48; (with_reducible refine (ms.out _ ?_).mono ?_); exact HT.out.below hB; rintro e wz ⟨rfl, hb⟩; replace kA := kA.below hb kA.lt; replace hB := below_then hB hb; clear hb)
    | (go_at_call 49; (with_reducible refine (mc.out _).mono ?_); rintro e wz ⟨rfl, hb⟩; replace kA := kA.below hb kA.lt; replace hB := below_then hB hb; clear hb))
  rw [← hn]
  clear hn
  have c0 : wz.cell? ⟨BA, 0, none⟩ = some (.int .i64 who) := kA.cell 0
  have c1 : wz.cell? ⟨BA, 1, none⟩ = some (.int .i64 round) := kA.cell 1
  go_upto_region 5 with (first
    | (go_at_call 50; (with_reducible refine (M1.out _ ?_).mono ?_); exact HT.out.below hB; rintro e wy ⟨rfl, hb⟩; replace kA := kA.below hb kA.lt; replace hB := below_then hB hb; clear hb)
    | (refine wpList_store_rowTo rfl 73 _ _ rfl rfl _ (comA c) rfl rfl _ _ (Blk.new _ _ _) (by rw [comA_size (c := c) HC.out]; exact com_size) (by rw [comA_size (c := c) HC.out]; rfl) (comA_one _) ?_))
  refine nameStored (comA c) ?_
  intro w1 k1 hb
  have hgC : w.heap.size ≤ wy.heap.size := hB.size
  replace hB := below_then hB hb
  replace kA := kA.below hb kA.lt
  clear hb c0 c1
  generalize wy.heap.size = C at k1 hgC ⊢
  have c0 : w1.cell? ⟨BA, 0, none⟩ = some (.int .i64 who) := kA.cell 0
  have c1 : w1.cell? ⟨BA, 1, none⟩ = some (.int .i64 round) := kA.cell 1
  go_upto_region 6 with (first
    | (go_at_call 51; (with_reducible refine (M2.out _).mono ?_); rintro e wx ⟨rfl, hb⟩; replace k1 := k1.below hb k1.lt; replace hB := below_then hB hb; clear hb)
    | (refine wpList_store_rowTo rfl 73 _ _ rfl rfl _ (comA c) rfl rfl _ _ (Blk.new _ _ _) (by rw [comA_size (c := c) HC.out]; exact com_size) (by rw [comA_size (c := c) HC.out]; rfl) (comA_one _) ?_))
  refine nameStored (comA c) ?_
  intro w2 k2 hb
  replace hB := below_then hB hb
  replace k1 := k1.below hb k1.lt
  clear hb c0 c1
  generalize wx.heap.size = D at k2 ⊢
  go_wp2_with (first
    | (refine wpList_load_rowG (by rfl) 73 _ rfl _ rfl C rfl _ (comA c) (0, 0) _ k1 Tryz.underlying73 rfl (by rw [comA_size (c := c) HC.out]; exact com_size) ?_)
    | (refine wpList_load_rowG (by rfl) 73 _ rfl _ rfl D rfl _ (comA c) (0, 0) _ k2 Tryz.underlying73 rfl (by rw [comA_size (c := c) HC.out]; exact com_size) ?_))
  go_ret
  exact ⟨by simp, hB⟩

end Go.Proofs.YtebgmlbbilcbbaaGreatDoor
