/- The law LockHashes. -/
import Derived.Test.YtebgmlbbilcbbaaGreatDoorLockT
namespace Go.Proofs.YtebgmlbbilcbbaaGreatDoor
open Go.RowKit
attribute [local go_sem] Oper.semAt_some

theorem lockedR_len (round : Int) (cs : List Com) : (lockedR round cs).1.length = 32 := by
  unfold lockedR
  split
  · rfl
  · split
    · split
      · exact sha_len _
      · rfl
    · rfl
theorem listC_len (xs : List (Int × Int)) : (listC xs).length ≤ 15 := by unfold listC; rw [List.length_mapIdx, List.length_take]; omega
theorem listC_who {xs : List (Int × Int)} (h : ∀ x ∈ xs, I64 x.1 ∧ I64 x.2) : ∀ y ∈ listC xs, I64 y.1.who := fun y hy => by
  obtain ⟨i, hi, rfl⟩ := List.mem_mapIdx.1 hy
  exact (h _ (List.mem_of_mem_take (List.getElem_mem hi))).1

set_option maxRecDepth 100000 in
set_option maxHeartbeats 4000000 in
theorem LockHashes_any (round : Int) (A : Option Addr) (n c : Nat) (xs : List (Int × Int)) (w : World) (hT : Tabs w) (hx : PRow w A n c xs) (h1 : I64 round) (hr : ∀ x ∈ xs, I64 x.1 ∧ I64 x.2) (hn : n ≤ 9223372036854775807) :
    Calls Tryz.prog 13 #[.int .i64 round, .slice A n c] w fun e w' => e = .returned (.bool true) ∧ Below w.heap.size w w' := by
  have HT := Lib.hid hT
  have HX := Lib.hid hx
  clear hT hx
  have ms := Lib.hid sanity11
  have ml := Lib.hid (fun W h => list_any A n c xs W h hr hn)
  have hcl := listC_len xs
  have hcw := listC_who hr
  obtain ⟨m, hm⟩ : ∃ m, m = (listC xs).length := ⟨_, rfl⟩
  rw [← hm] at ml hcl
  generalize listC xs = cs at *
  have mp := Lib.hid (fun B d W hT h => Locked_q round h1 B m d cs hcw (by omega) W hT h)
  have mr := Lib.hid (fun B d W h => rLocked_q round h1 B m d cs hcw (by omega) W h)
  have hl := lockedR_len round (cs.map (·.1))
  have HL := Lib.hid hl
  have hEq := fun w => run_eq_hash hl hl 9998 w
  generalize (lockedR round (cs.map (·.1))).1 = g at *
  generalize (lockedR round (cs.map (·.1))).2 = e9 at *
  clear hl hr hcw hm
  have hB := Below.refl w.heap.size w
  go_enter Tryz.func13, Tryz.ntmps13
  go_upto_region 2 with (go_at_call 48; (with_reducible refine (ms.out _ ?_).mono ?_); exact HT.out.below hB; rintro e wz ⟨rfl, hb⟩; replace hB := below_then hB hb; clear hb)
  go_upto_region 3 with (go_at_call 58; (with_reducible refine (ml.out _ ?_).mono ?_); exact HX.out.below hB; rintro e wy ⟨⟨B, d, rfl, hcr⟩, hb⟩; replace hB := below_then hB hb; clear hb)
  go_upto_region 4 with (first
    | (go_at_call 59; (with_reducible refine (mp.out _ _ _ ?_ hcr).mono ?_); exact HT.out.below hB; rintro e wx ⟨rfl, hb⟩; replace hcr := hcr.below hb; replace hB := below_then hB hb; clear hb)
    | (refine wpList_store_rowTo rfl 71 _ _ rfl rfl _ (u8a g) rfl rfl _ _ (Blk.new _ _ _) (by rw [u8a_len HL.out]; exact hash_size) (by rw [u8a_len HL.out]; rfl) (u8a_one _) ?_))
  refine nameStored (u8a g) ?_
  intro w1 k1 hb
  replace hcr := hcr.below hb
  replace hB := below_then hB hb
  clear hb
  generalize wx.heap.size = C at k1 ⊢
  go_upto_region 5 with (first
    | (go_at_call 60; (with_reducible refine (mr.out _ _ _ hcr).mono ?_); rintro e wv ⟨rfl, hb⟩; replace k1 := k1.below hb k1.lt; replace hB := below_then hB hb; clear hb)
    | (refine wpList_store_rowTo rfl 71 _ _ rfl rfl _ (u8a g) rfl rfl _ _ (Blk.new _ _ _) (by rw [u8a_len HL.out]; exact hash_size) (by rw [u8a_len HL.out]; rfl) (u8a_one _) ?_))
  refine nameStored (u8a g) ?_
  intro w2 k2 hb
  replace k1 := k1.below hb k1.lt
  replace hB := below_then hB hb
  clear hb
  generalize wv.heap.size = D at k2 ⊢
  go_wp2_with (first
    | (refine wpList_load_rowG (by rfl) 71 _ rfl _ rfl C rfl _ (u8a g) (0, 0) _ k1 Tryz.underlying71 rfl (by rw [u8a_len HL.out]; exact hash_size) ?_)
    | (refine wpList_load_rowG (by rfl) 71 _ rfl _ rfl D rfl _ (u8a g) (0, 0) _ k2 Tryz.underlying71 rfl (by rw [u8a_len HL.out]; exact hash_size) ?_))
  go_ret
  exact ⟨by simp, hB⟩

end Go.Proofs.YtebgmlbbilcbbaaGreatDoor
