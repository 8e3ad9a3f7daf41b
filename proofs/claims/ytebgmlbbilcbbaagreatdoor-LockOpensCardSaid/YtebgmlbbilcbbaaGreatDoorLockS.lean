/- The law LockOpens. -/
import Derived.Test.YtebgmlbbilcbbaaGreatDoorLockP
namespace Go.Proofs.YtebgmlbbilcbbaaGreatDoor
open Go.RowKit
attribute [local go_sem] Oper.semAt_some

set_option maxRecDepth 100000 in
set_option maxHeartbeats 4000000 in
theorem LockOpens_any (who round : Int) (s r : ByteArray) (w : World) (hT : Tabs w) (h1 : I64 who) (h2 : I64 round) (hs : s.size ≤ 9223372036854775807) (hr : r.size ≤ 9223372036854775807) :
    Calls Tryz.prog 12 #[.agg #[.int .i64 who, .int .i64 round], .string s, .string r] w fun e w' => e = .returned (.bool true) ∧ Below w.heap.size w w' := by
  have HT := Lib.hid hT
  clear hT
  have ms := Lib.hid sanity11
  have mc : Hid (Ret 49 #[.string s, .int .i64 100] (.string (cutS s 100))) := Lib.hid (cut_q s 100 hs (by omega))
  have mr : Hid (Ret 49 #[.string r, .int .i64 100] (.string (cutS r 100))) := Lib.hid (cut_q r 100 hr (by omega))
  have ht := cutS_le s 100
  have hv := cutS_le r 100
  generalize cutS s 100 = t at mc ht
  generalize cutS r 100 = v at mr hv
  obtain ⟨c, hc0⟩ : ∃ c, c = comMade who round t.data.toList 1 := ⟨_, rfl⟩
  have hc : c.hash.length = 32 := hc0 ▸ made_len _ _ _ _
  have hcw : I64 c.who := by rw [hc0]; exact h1
  have hch : c.hash = secretH who round t.data.toList := by rw [hc0]; rfl
  have hcwho : c.who = who := by rw [hc0]; rfl
  have HC := Lib.hid hc
  have M1 : Hid (Ret 51 #[.int .i64 who, .int .i64 round, .string t, .int .i64 1] (.tuple #[.agg (comA c), .bool true])) := Lib.hid (by rw [hc0]; exact rCommit_yes who round t 1 h1 h2 ht (by omega) (by omega))
  have O1 : Hid (RetT 53 #[.agg (comA c), .int .i64 round, .string t] (.bool true)) := Lib.hid (by
    have o := Opens_q c round t hc hcw h2 (by omega)
    rwa [show opensR c round t.data.toList = true from decide_eq_true (by rw [hch, hcwho])] at o)
  have O2 := Lib.hid (Opens_q c round v hc hcw h2 (by omega))
  have M2 := Lib.hid (rHash_q who round t h1 h2 (by omega))
  have M3 := Lib.hid (rHash_q who round v h1 h2 (by omega))
  rw [show opensR c round v.data.toList = decide (secretH who round t.data.toList = secretH who round v.data.toList) from by unfold opensR; rw [hch, hcwho]] at O2
  have hl1 : (secretH who round t.data.toList).length = 32 := sha_len _
  have hl2 : (secretH who round v.data.toList).length = 32 := sha_len _
  have hEq := fun w => run_eq_hash hl1 hl2 9998 w
  generalize secretH who round t.data.toList = g1 at *
  generalize secretH who round v.data.toList = g2 at *
  clear hc hcw hch hcwho hc0 hl1 hl2
  go_enter Tryz.func12, Tryz.ntmps12
  go_upto_region 1 with fail
  refine nameOne _ rfl ?_
  intro w0 kA hB
  obtain ⟨BA, hBA⟩ : ∃ B, B = w.heap.size := ⟨_, rfl⟩
  rw [← hBA] at kA ⊢
  clear hBA
  go_upto_region 4 with (first
    | (go_at_call 48; (with_reducible refine (ms.out _ ?_).mono ?_); exact HT.out.below hB; rintro e wz ⟨rfl, hb⟩; replace kA := kA.below hb kA.lt; replace hB := below_then hB hb; clear hb)
    | (go_at_call 49; (with_reducible refine (mc.out _).mono ?_); rintro e wz ⟨rfl, hb⟩; replace kA := kA.below hb kA.lt; replace hB := below_then hB hb; clear hb)
    | (go_at_call 49; (with_reducible refine (mr.out _).mono ?_); rintro e wz ⟨rfl, hb⟩; replace kA := kA.below hb kA.lt; replace hB := below_then hB hb; clear hb))
  have c0 : wz.cell? ⟨BA, 0, none⟩ = some (.int .i64 who) := kA.cell 0
  have c1 : wz.cell? ⟨BA, 1, none⟩ = some (.int .i64 round) := kA.cell 1
  go_upto_region 5 with (first
    | (go_at_call 51; (with_reducible refine (M1.out _).mono ?_); rintro e wy ⟨rfl, hb⟩; replace kA := kA.below hb kA.lt; replace hB := below_then hB hb; clear hb)
    | (refine wpList_store_rowTo rfl 73 _ _ rfl rfl _ (comA c) rfl rfl _ _ (Blk.new _ _ _) (by rw [comA_size (c := c) HC.out]; exact com_size) (by rw [comA_size (c := c) HC.out]; rfl) (comA_one _) ?_))
  refine nameStored (comA c) ?_
  intro w1 k1 hb
  have hgC : w.heap.size ≤ wy.heap.size := hB.size
  replace hB := below_then hB hb
  replace kA := kA.below hb kA.lt
  clear hb c0 c1
  generalize wy.heap.size = C at k1 hgC ⊢
  have c1 : w1.cell? ⟨BA, 1, none⟩ = some (.int .i64 round) := kA.cell 1
  by_cases htv : t = v
  · subst htv
    have hq := txt_same t
    clear O2 M2 M3 hEq
    go_upto_region 6 with (first
      | (refine wpList_load_rowG (by rfl) 73 _ rfl _ rfl C rfl _ (comA c) (0, 0) _ k1 Tryz.underlying73 rfl (by rw [comA_size (c := c) HC.out]; exact com_size) ?_)
      | (go_at_call 53; (with_reducible first | refine (O1.out _ ?_).mono ?_ | refine (O1.out _ ?_).mono ?_); exact HT.out.below hB; rintro e wx ⟨rfl, hb⟩; replace kA := kA.below hb kA.lt; replace k1 := k1.below hb k1.lt; replace hB := below_then hB hb; clear hb; have c1 := kA.cell 1))
    clear c1
    have hBd := hB.drew
    have kAd : Blk _ BA 68 #[.int .i64 who, .int .i64 round] := kA.below (Below.refl _ _).drew kA.lt
    have k1d : Blk _ C 73 (comA c) := k1.below (Below.refl _ _).drew k1.lt
    refine region_here (fun Z : World => Z.cell? ⟨BA, 0, none⟩ = some (.int .i64 who) ∧ Z.cell? ⟨BA, 1, none⟩ = some (.int .i64 round)) 18 (by kernel_rfl) ⟨kAd.cell 0, kAd.cell 1⟩ (fun hHeld => ?_)
    refine wpAnyS_take [2, 3, 4, 5, 6, 7, 8, 9, 10, 11, 12, 13, 14, 15, 16, 17, 18] (i := 0) (oi := ⟨_, _, _, _, _, _⟩) (v := ?_) (by simp) (by kernel_rfl) rfl (by kernel_rfl) (by kernel_rfl) (by kernel_rfl) (fun _ _ _ h => h) (Or.inl ⟨by rfl, ?_⟩) (by assumption) ?_
    rotate_left
    · (intro w hSw; (try dsimp only at hSw); go_simp; try with_reducible rfl)
    try simp only [Act.put, List.setIfInBounds_toArray, List.set_cons_zero, List.set_cons_succ]
    refine wpAnyS_take [2, 3, 4, 5, 6, 7, 8, 9, 10, 11, 12, 13, 14, 15, 16, 17, 18] (i := 1) (oi := ⟨_, _, _, _, _, _⟩) (v := ?_) (by simp) (by kernel_rfl) rfl (by kernel_rfl) (by kernel_rfl) (by kernel_rfl) (fun _ _ _ h => h) (Or.inl ⟨by rfl, ?_⟩) (by assumption) ?_
    rotate_left
    · (intro w hSw; (try dsimp only at hSw); go_simp; try with_reducible rfl)
    try simp only [Act.put, List.setIfInBounds_toArray, List.set_cons_zero, List.set_cons_succ]
    refine wpAnyS_take [3, 4, 5, 6, 7, 8, 9, 10, 11, 12, 13, 14, 15, 16, 17, 18] (i := 2) (oi := ⟨_, _, _, _, _, _⟩) (v := ?_) (by simp) (by kernel_rfl) rfl (by kernel_rfl) (by kernel_rfl) (by kernel_rfl) (fun _ _ _ h => h) (Or.inl ⟨by rfl, ?_⟩) (by assumption) ?_
    rotate_left
    · (intro w hSw; (try dsimp only at hSw); go_simp; try with_reducible rfl)
    try simp only [Act.put, List.setIfInBounds_toArray, List.set_cons_zero, List.set_cons_succ]
    refine wpAnyS_take [4, 5, 6, 7, 8, 9, 10, 11, 12, 13, 14, 15, 16, 17, 18] (i := 3) (oi := ⟨_, _, _, _, _, _⟩) (v := ?_) (by simp) (by kernel_rfl) rfl (by kernel_rfl) (by kernel_rfl) (by kernel_rfl) (fun _ _ _ h => h) (Or.inl ⟨by rfl, ?_⟩) (by assumption) ?_
    rotate_left
    · (intro w hSw; (try dsimp only at hSw); go_simp; try with_reducible rfl)
    try simp only [Act.put, List.setIfInBounds_toArray, List.set_cons_zero, List.set_cons_succ]
    refine wpAnyS_take [5, 9, 15, 16, 17, 18] (i := 4) (oi := ⟨_, _, _, _, _, _⟩) (v := undef) (by simp) (by kernel_rfl) rfl (by kernel_rfl) (by kernel_rfl) (by kernel_rfl) (fun _ _ _ h => h) (Or.inr ⟨by rfl, rfl⟩) (by assumption) ?_
    try simp only [Act.put, List.setIfInBounds_toArray, List.set_cons_zero, List.set_cons_succ]
    refine wpAnyS_take [9, 15, 16, 17, 18] (i := 5) (oi := ⟨_, _, _, _, _, _⟩) (v := undef) (by simp) (by kernel_rfl) rfl (by kernel_rfl) (by kernel_rfl) (by kernel_rfl) (fun _ _ _ h => h) (Or.inr ⟨by rfl, rfl⟩) (by assumption) ?_
    try simp only [Act.put, List.setIfInBounds_toArray, List.set_cons_zero, List.set_cons_succ]
    refine wpAnyS_take [7, 9, 15, 16, 17, 18] (i := 6) (oi := ⟨_, _, _, _, _, _⟩) (v := undef) (by simp) (by kernel_rfl) rfl (by kernel_rfl) (by kernel_rfl) (by kernel_rfl) (fun _ _ _ h => h) (Or.inr ⟨by rfl, rfl⟩) (by assumption) ?_
    try simp only [Act.put, List.setIfInBounds_toArray, List.set_cons_zero, List.set_cons_succ]
    refine wpAnyS_take [9, 15, 16, 17, 18] (i := 7) (oi := ⟨_, _, _, _, _, _⟩) (v := undef) (by simp) (by kernel_rfl) rfl (by kernel_rfl) (by kernel_rfl) (by kernel_rfl) (fun _ _ _ h => h) (Or.inr ⟨by rfl, rfl⟩) (by assumption) ?_
    try simp only [Act.put, List.setIfInBounds_toArray, List.set_cons_zero, List.set_cons_succ]
    refine wpAnyS_take [9, 15, 16, 17, 18] (i := 8) (oi := ⟨_, _, _, _, _, _⟩) (v := undef) (by simp) (by kernel_rfl) rfl (by kernel_rfl) (by kernel_rfl) (by kernel_rfl) (fun _ _ _ h => h) (Or.inr ⟨by rfl, rfl⟩) (by assumption) ?_
    try simp only [Act.put, List.setIfInBounds_toArray, List.set_cons_zero, List.set_cons_succ]
    refine wpAnyS_take [15, 16, 17, 18] (i := 9) (oi := ⟨_, _, _, _, _, _⟩) (v := undef) (by simp) (by kernel_rfl) rfl (by kernel_rfl) (by kernel_rfl) (by kernel_rfl) (fun _ _ _ h => h) (Or.inr ⟨by rfl, rfl⟩) (by assumption) ?_
    try simp only [Act.put, List.setIfInBounds_toArray, List.set_cons_zero, List.set_cons_succ]
    refine wpAnyS_take [11, 15, 16, 17, 18] (i := 10) (oi := ⟨_, _, _, _, _, _⟩) (v := undef) (by simp) (by kernel_rfl) rfl (by kernel_rfl) (by kernel_rfl) (by kernel_rfl) (fun _ _ _ h => h) (Or.inr ⟨by rfl, rfl⟩) (by assumption) ?_
    try simp only [Act.put, List.setIfInBounds_toArray, List.set_cons_zero, List.set_cons_succ]
    refine wpAnyS_take [15, 16, 17, 18] (i := 11) (oi := ⟨_, _, _, _, _, _⟩) (v := undef) (by simp) (by kernel_rfl) rfl (by kernel_rfl) (by kernel_rfl) (by kernel_rfl) (fun _ _ _ h => h) (Or.inr ⟨by rfl, rfl⟩) (by assumption) ?_
    try simp only [Act.put, List.setIfInBounds_toArray, List.set_cons_zero, List.set_cons_succ]
    refine wpAnyS_take [13, 15, 16, 17, 18] (i := 12) (oi := ⟨_, _, _, _, _, _⟩) (v := undef) (by simp) (by kernel_rfl) rfl (by kernel_rfl) (by kernel_rfl) (by kernel_rfl) (fun _ _ _ h => h) (Or.inr ⟨by rfl, rfl⟩) (by assumption) ?_
    try simp only [Act.put, List.setIfInBounds_toArray, List.set_cons_zero, List.set_cons_succ]
    refine wpAnyS_take [15, 16, 17, 18] (i := 13) (oi := ⟨_, _, _, _, _, _⟩) (v := undef) (by simp) (by kernel_rfl) rfl (by kernel_rfl) (by kernel_rfl) (by kernel_rfl) (fun _ _ _ h => h) (Or.inr ⟨by rfl, rfl⟩) (by assumption) ?_
    try simp only [Act.put, List.setIfInBounds_toArray, List.set_cons_zero, List.set_cons_succ]
    refine wpAnyS_take [15, 16, 17, 18] (i := 14) (oi := ⟨_, _, _, _, _, _⟩) (v := undef) (by simp) (by kernel_rfl) rfl (by kernel_rfl) (by kernel_rfl) (by kernel_rfl) (fun _ _ _ h => h) (Or.inr ⟨by rfl, rfl⟩) (by assumption) ?_
    try simp only [Act.put, List.setIfInBounds_toArray, List.set_cons_zero, List.set_cons_succ]
    refine wpAnyS_take [16, 17, 18] (i := 15) (oi := ⟨_, _, _, _, _, _⟩) (v := undef) (by simp) (by kernel_rfl) rfl (by kernel_rfl) (by kernel_rfl) (by kernel_rfl) (fun _ _ _ h => h) (Or.inr ⟨by rfl, rfl⟩) (by assumption) ?_
    try simp only [Act.put, List.setIfInBounds_toArray, List.set_cons_zero, List.set_cons_succ]
    refine wpAnyS_take [17, 18] (i := 16) (oi := ⟨_, _, _, _, _, _⟩) (v := undef) (by simp) (by kernel_rfl) rfl (by kernel_rfl) (by kernel_rfl) (by kernel_rfl) (fun _ _ _ h => h) (Or.inr ⟨by rfl, rfl⟩) (by assumption) ?_
    try simp only [Act.put, List.setIfInBounds_toArray, List.set_cons_zero, List.set_cons_succ]
    refine wpAnyS_take [18] (i := 17) (oi := ⟨_, _, _, _, _, _⟩) (v := ?_) (by simp) (by kernel_rfl) rfl (by kernel_rfl) (by kernel_rfl) (by kernel_rfl) (fun _ _ _ h => h) (Or.inl ⟨by rfl, ?_⟩) (by assumption) ?_
    rotate_left
    · (intro w hSw; (try dsimp only at hSw); go_simp; try with_reducible rfl)
    try simp only [Act.put, List.setIfInBounds_toArray, List.set_cons_zero, List.set_cons_succ]
    refine wpAnyS_call (k := 18) (ok := ⟨_, _, _, _, _, _⟩) rfl (by kernel_rfl) (by kernel_rfl) (fun K hK => ?_)
    go_simp
    refine hK.out _ _ ?_
    clear hK K
    try simp only [Act.put, List.setIfInBounds_toArray, List.set_cons_zero, List.set_cons_succ]
    refine wpAny_done (by kernel_rfl) ?_ _
    have c1z := kAd.cell 1
    go_wp2_with (first | (refine wpList_load_rowG (by rfl) 73 _ rfl _ rfl C rfl _ (comA c) (0, 0) _ k1d Tryz.underlying73 rfl (by rw [comA_size (c := c) HC.out]; exact com_size) ?_) | (go_at_call 53; (with_reducible refine (O1.out _ ?_).mono ?_); exact HT.out.below hBd; rintro e wq ⟨rfl, hb⟩; have hBq := below_then hBd hb; clear hb))
    go_ret
    exact ⟨rfl, hBq⟩
  · have hq := txt_diff htv
    by_cases hg : g1 = g2
    · rw [decide_eq_true hg] at O2 hEq
      clear hg
      go_upto_region 6 with (first
        | (refine wpList_load_rowG (by rfl) 73 _ rfl _ rfl C rfl _ (comA c) (0, 0) _ k1 Tryz.underlying73 rfl (by rw [comA_size (c := c) HC.out]; exact com_size) ?_)
        | (go_at_call 53; (with_reducible first | refine (O1.out _ ?_).mono ?_ | refine (O2.out _ ?_).mono ?_); exact HT.out.below hB; rintro e wx ⟨rfl, hb⟩; replace kA := kA.below hb kA.lt; replace k1 := k1.below hb k1.lt; replace hB := below_then hB hb; clear hb; have c1 := kA.cell 1))
      clear c1
      have hBd := hB.drew
      have kAd : Blk _ BA 68 #[.int .i64 who, .int .i64 round] := kA.below (Below.refl _ _).drew kA.lt
      have k1d : Blk _ C 73 (comA c) := k1.below (Below.refl _ _).drew k1.lt
      refine region_here (fun Z : World => Z.cell? ⟨BA, 0, none⟩ = some (.int .i64 who) ∧ Z.cell? ⟨BA, 1, none⟩ = some (.int .i64 round)) 16 (by kernel_rfl) ⟨kAd.cell 0, kAd.cell 1⟩ (fun hHeld => ?_)
      refine wpAnyS_take [2, 3, 4, 5, 6, 7, 8, 9, 10, 11, 12, 13, 14, 15, 16, 17, 18] (i := 0) (oi := ⟨_, _, _, _, _, _⟩) (v := ?_) (by simp) (by kernel_rfl) rfl (by kernel_rfl) (by kernel_rfl) (by kernel_rfl) (fun _ _ _ h => h) (Or.inl ⟨by rfl, ?_⟩) (by assumption) ?_
      rotate_left
      · (intro w hSw; (try dsimp only at hSw); go_simp; try with_reducible rfl)
      try simp only [Act.put, List.setIfInBounds_toArray, List.set_cons_zero, List.set_cons_succ]
      refine wpAnyS_take [2, 3, 4, 5, 6, 7, 8, 9, 10, 11, 12, 13, 14, 15, 16, 17, 18] (i := 1) (oi := ⟨_, _, _, _, _, _⟩) (v := ?_) (by simp) (by kernel_rfl) rfl (by kernel_rfl) (by kernel_rfl) (by kernel_rfl) (fun _ _ _ h => h) (Or.inl ⟨by rfl, ?_⟩) (by assumption) ?_
      rotate_left
      · (intro w hSw; (try dsimp only at hSw); go_simp; try with_reducible rfl)
      try simp only [Act.put, List.setIfInBounds_toArray, List.set_cons_zero, List.set_cons_succ]
      refine wpAnyS_take [3, 4, 5, 6, 7, 8, 9, 10, 11, 12, 13, 14, 15, 16, 17, 18] (i := 2) (oi := ⟨_, _, _, _, _, _⟩) (v := ?_) (by simp) (by kernel_rfl) rfl (by kernel_rfl) (by kernel_rfl) (by kernel_rfl) (fun _ _ _ h => h) (Or.inl ⟨by rfl, ?_⟩) (by assumption) ?_
      rotate_left
      · (intro w hSw; (try dsimp only at hSw); go_simp; try with_reducible rfl)
      try simp only [Act.put, List.setIfInBounds_toArray, List.set_cons_zero, List.set_cons_succ]
      refine wpAnyS_take [4, 5, 6, 7, 8, 9, 10, 11, 12, 13, 14, 15, 16, 17, 18] (i := 3) (oi := ⟨_, _, _, _, _, _⟩) (v := ?_) (by simp) (by kernel_rfl) rfl (by kernel_rfl) (by kernel_rfl) (by kernel_rfl) (fun _ _ _ h => h) (Or.inl ⟨by rfl, ?_⟩) (by assumption) ?_
      rotate_left
      · (intro w hSw; (try dsimp only at hSw); go_simp; try with_reducible rfl)
      try simp only [Act.put, List.setIfInBounds_toArray, List.set_cons_zero, List.set_cons_succ]
      refine wpAnyS_take [5, 9, 15, 16, 17, 18] (i := 4) (oi := ⟨_, _, _, _, _, _⟩) (v := ?_) (by simp) (by kernel_rfl) rfl (by kernel_rfl) (by kernel_rfl) (by kernel_rfl) (fun _ _ _ h => h) (Or.inl ⟨by rfl, ?_⟩) (by assumption) ?_
      rotate_left
      · (intro w hSw; (try dsimp only at hSw); go_simp; try with_reducible rfl)
      try simp only [Act.put, List.setIfInBounds_toArray, List.set_cons_zero, List.set_cons_succ]
      refine wpAnyS_take [9, 15, 16, 17, 18] (i := 5) (oi := ⟨_, _, _, _, _, _⟩) (v := ?_) (by simp) (by kernel_rfl) rfl (by kernel_rfl) (by kernel_rfl) (by kernel_rfl) (fun _ _ _ h => h) (Or.inl ⟨by rfl, ?_⟩) (by assumption) ?_
      rotate_left
      · (intro w hSw; (try dsimp only at hSw); go_simp; try with_reducible rfl)
      try simp only [Act.put, List.setIfInBounds_toArray, List.set_cons_zero, List.set_cons_succ]
      refine wpAnyS_take [7, 9, 15, 16, 17, 18] (i := 6) (oi := ⟨_, _, _, _, _, _⟩) (v := ?_) (by simp) (by kernel_rfl) rfl (by kernel_rfl) (by kernel_rfl) (by kernel_rfl) (fun _ _ _ h => h) (Or.inl ⟨by rfl, ?_⟩) (by assumption) ?_
      rotate_left
      · (intro w hSw; (try dsimp only at hSw); go_simp; try with_reducible rfl)
      try simp only [Act.put, List.setIfInBounds_toArray, List.set_cons_zero, List.set_cons_succ]
      refine wpAnyS_take [9, 15, 16, 17, 18] (i := 7) (oi := ⟨_, _, _, _, _, _⟩) (v := ?_) (by simp) (by kernel_rfl) rfl (by kernel_rfl) (by kernel_rfl) (by kernel_rfl) (fun _ _ _ h => h) (Or.inl ⟨by rfl, ?_⟩) (by assumption) ?_
      rotate_left
      · (intro w hSw; (try dsimp only at hSw); go_simp; try with_reducible rfl)
      try simp only [Act.put, List.setIfInBounds_toArray, List.set_cons_zero, List.set_cons_succ]
      refine wpAnyS_take [9, 15, 16, 17, 18] (i := 8) (oi := ⟨_, _, _, _, _, _⟩) (v := ?_) (by simp) (by kernel_rfl) rfl (by kernel_rfl) (by kernel_rfl) (by kernel_rfl) (fun _ _ _ h => h) (Or.inl ⟨by rfl, ?_⟩) (by assumption) ?_
      rotate_left
      · (intro w hSw; (try dsimp only at hSw); go_simp; try with_reducible rfl)
      try simp only [Act.put, List.setIfInBounds_toArray, List.set_cons_zero, List.set_cons_succ]
      refine wpAnyS_take [11, 15, 16, 17, 18] (i := 10) (oi := ⟨_, _, _, _, _, _⟩) (v := ?_) (by simp) (by kernel_rfl) rfl (by kernel_rfl) (by kernel_rfl) (by kernel_rfl) (fun _ _ _ h => h) (Or.inl ⟨by rfl, ?_⟩) (by assumption) ?_
      rotate_left
      · (intro w hSw; (try dsimp only at hSw); go_simp; try with_reducible rfl)
      try simp only [Act.put, List.setIfInBounds_toArray, List.set_cons_zero, List.set_cons_succ]
      refine wpAnyS_take [15, 16, 17, 18] (i := 11) (oi := ⟨_, _, _, _, _, _⟩) (v := ?_) (by simp) (by kernel_rfl) rfl (by kernel_rfl) (by kernel_rfl) (by kernel_rfl) (fun _ _ _ h => h) (Or.inl ⟨by rfl, ?_⟩) (by assumption) ?_
      rotate_left
      · (intro w hSw; (try dsimp only at hSw); go_simp; try with_reducible rfl)
      try simp only [Act.put, List.setIfInBounds_toArray, List.set_cons_zero, List.set_cons_succ]
      refine wpAnyS_take [13, 15, 16, 17, 18] (i := 12) (oi := ⟨_, _, _, _, _, _⟩) (v := ?_) (by simp) (by kernel_rfl) rfl (by kernel_rfl) (by kernel_rfl) (by kernel_rfl) (fun _ _ _ h => h) (Or.inl ⟨by rfl, ?_⟩) (by assumption) ?_
      rotate_left
      · (intro w hSw; (try dsimp only at hSw); go_simp; try with_reducible rfl)
      try simp only [Act.put, List.setIfInBounds_toArray, List.set_cons_zero, List.set_cons_succ]
      refine wpAnyS_take [15, 16, 17, 18] (i := 13) (oi := ⟨_, _, _, _, _, _⟩) (v := ?_) (by simp) (by kernel_rfl) rfl (by kernel_rfl) (by kernel_rfl) (by kernel_rfl) (fun _ _ _ h => h) (Or.inl ⟨by rfl, ?_⟩) (by assumption) ?_
      rotate_left
      · (intro w hSw; (try dsimp only at hSw); go_simp; try with_reducible rfl)
      try simp only [Act.put, List.setIfInBounds_toArray, List.set_cons_zero, List.set_cons_succ]
      refine wpAnyS_take [15, 16, 17, 18] (i := 14) (oi := ⟨_, _, _, _, _, _⟩) (v := ?_) (by simp) (by kernel_rfl) rfl (by kernel_rfl) (by kernel_rfl) (by kernel_rfl) (fun _ _ _ h => h) (Or.inl ⟨by rfl, ?_⟩) (by assumption) ?_
      rotate_left
      · (intro w hSw; (try dsimp only at hSw); go_simp; try with_reducible rfl)
      try simp only [Act.put, List.setIfInBounds_toArray, List.set_cons_zero, List.set_cons_succ]
      refine wpAnyS_one (i := 9) (oi := ⟨_, _, _, _, _, _⟩) rfl (by kernel_rfl) (fun K hK => ?_)
      go_simp
      go_at_call 57
      (with_reducible refine (M2.out _).mono ?_)
      rintro e wa ⟨rfl, hba⟩
      (try go_wp2_with fail)
      refine hK.out _ _ ?_ (fun hHeld9 => ?_)
      · exact ⟨cell_b hba hHeld.1, cell_b hba hHeld.2⟩
      clear hK K
      try simp only [Act.put, List.setIfInBounds_toArray, List.set_cons_zero, List.set_cons_succ]
      refine wpAnyS_one (i := 15) (oi := ⟨_, _, _, _, _, _⟩) rfl (by kernel_rfl) (fun K hK => ?_)
      go_simp
      go_at_call 57
      (with_reducible refine (M3.out _).mono ?_)
      rintro e wb ⟨rfl, hbb⟩
      (try go_wp2_with fail)
      refine hK.out _ _ ?_ (fun hHeld15 => ?_)
      · exact ⟨cell_b hbb hHeld9.1, cell_b hbb hHeld9.2⟩
      clear hK K
      try simp only [Act.put, List.setIfInBounds_toArray, List.set_cons_zero, List.set_cons_succ]
      refine wpAnyS_call (k := 16) (ok := ⟨_, _, _, _, _, _⟩) rfl (by kernel_rfl) (by kernel_rfl) (fun K hK => ?_)
      go_simp
      refine hK.out _ _ ?_
      clear hK K
      try simp only [Act.put, List.setIfInBounds_toArray, List.set_cons_zero, List.set_cons_succ]
      refine wpAny_take (i := 17) (oi := ⟨_, _, _, _, _, _⟩) (v := ?_) rfl (by kernel_rfl) (by kernel_rfl) (by kernel_rfl) (fun _ _ _ h => h) (Or.inl ⟨by rfl, ?_⟩) ?_
      rotate_left
      · (intro w; go_simp; try with_reducible rfl)
      try simp only [Act.put, List.setIfInBounds_toArray, List.set_cons_zero, List.set_cons_succ]
      refine wpAny_take (i := 18) (oi := ⟨_, _, _, _, _, _⟩) (v := ?_) rfl (by kernel_rfl) (by kernel_rfl) (by kernel_rfl) (fun _ _ _ h => h) (Or.inl ⟨by rfl, ?_⟩) ?_
      rotate_left
      · (intro w; go_simp; try with_reducible rfl)
      try simp only [Act.put, List.setIfInBounds_toArray, List.set_cons_zero, List.set_cons_succ]
      refine wpAny_done (by kernel_rfl) ?_ _
      have hBz := below_then (below_then hBd hba) hbb
      have kAz := (kAd.below hba kAd.lt).below hbb (kAd.below hba kAd.lt).lt
      have k1z := (k1d.below hba k1d.lt).below hbb (k1d.below hba k1d.lt).lt
      clear hba hbb hBd kAd k1d
      have c1z := kAz.cell 1
      go_wp2_with (first | (refine wpList_load_rowG (by rfl) 73 _ rfl _ rfl C rfl _ (comA c) (0, 0) _ k1z Tryz.underlying73 rfl (by rw [comA_size (c := c) HC.out]; exact com_size) ?_) | (go_at_call 53; (with_reducible refine (O1.out _ ?_).mono ?_); exact HT.out.below hBz; rintro e wq ⟨rfl, hb⟩; have hBq := below_then hBz hb; clear hb))
      go_ret
      exact ⟨rfl, hBq⟩
    · rw [decide_eq_false hg] at O2 hEq
      clear hg
      go_upto_region 6 with (first
        | (refine wpList_load_rowG (by rfl) 73 _ rfl _ rfl C rfl _ (comA c) (0, 0) _ k1 Tryz.underlying73 rfl (by rw [comA_size (c := c) HC.out]; exact com_size) ?_)
        | (go_at_call 53; (with_reducible first | refine (O1.out _ ?_).mono ?_ | refine (O2.out _ ?_).mono ?_); exact HT.out.below hB; rintro e wx ⟨rfl, hb⟩; replace kA := kA.below hb kA.lt; replace k1 := k1.below hb k1.lt; replace hB := below_then hB hb; clear hb; have c1 := kA.cell 1))
      clear c1
      have hBd := hB.drew
      have kAd : Blk _ BA 68 #[.int .i64 who, .int .i64 round] := kA.below (Below.refl _ _).drew kA.lt
      have k1d : Blk _ C 73 (comA c) := k1.below (Below.refl _ _).drew k1.lt
      refine region_here (fun Z : World => Z.cell? ⟨BA, 0, none⟩ = some (.int .i64 who) ∧ Z.cell? ⟨BA, 1, none⟩ = some (.int .i64 round)) 16 (by kernel_rfl) ⟨kAd.cell 0, kAd.cell 1⟩ (fun hHeld => ?_)
      refine wpAnyS_take [2, 3, 4, 5, 6, 7, 8, 9, 10, 11, 12, 13, 14, 15, 16, 17, 18] (i := 0) (oi := ⟨_, _, _, _, _, _⟩) (v := ?_) (by simp) (by kernel_rfl) rfl (by kernel_rfl) (by kernel_rfl) (by kernel_rfl) (fun _ _ _ h => h) (Or.inl ⟨by rfl, ?_⟩) (by assumption) ?_
      rotate_left
      · (intro w hSw; (try dsimp only at hSw); go_simp; try with_reducible rfl)
      try simp only [Act.put, List.setIfInBounds_toArray, List.set_cons_zero, List.set_cons_succ]
      refine wpAnyS_take [2, 3, 4, 5, 6, 7, 8, 9, 10, 11, 12, 13, 14, 15, 16, 17, 18] (i := 1) (oi := ⟨_, _, _, _, _, _⟩) (v := ?_) (by simp) (by kernel_rfl) rfl (by kernel_rfl) (by kernel_rfl) (by kernel_rfl) (fun _ _ _ h => h) (Or.inl ⟨by rfl, ?_⟩) (by assumption) ?_
      rotate_left
      · (intro w hSw; (try dsimp only at hSw); go_simp; try with_reducible rfl)
      try simp only [Act.put, List.setIfInBounds_toArray, List.set_cons_zero, List.set_cons_succ]
      refine wpAnyS_take [3, 4, 5, 6, 7, 8, 9, 10, 11, 12, 13, 14, 15, 16, 17, 18] (i := 2) (oi := ⟨_, _, _, _, _, _⟩) (v := ?_) (by simp) (by kernel_rfl) rfl (by kernel_rfl) (by kernel_rfl) (by kernel_rfl) (fun _ _ _ h => h) (Or.inl ⟨by rfl, ?_⟩) (by assumption) ?_
      rotate_left
      · (intro w hSw; (try dsimp only at hSw); go_simp; try with_reducible rfl)
      try simp only [Act.put, List.setIfInBounds_toArray, List.set_cons_zero, List.set_cons_succ]
      refine wpAnyS_take [4, 5, 6, 7, 8, 9, 10, 11, 12, 13, 14, 15, 16, 17, 18] (i := 3) (oi := ⟨_, _, _, _, _, _⟩) (v := ?_) (by simp) (by kernel_rfl) rfl (by kernel_rfl) (by kernel_rfl) (by kernel_rfl) (fun _ _ _ h => h) (Or.inl ⟨by rfl, ?_⟩) (by assumption) ?_
      rotate_left
      · (intro w hSw; (try dsimp only at hSw); go_simp; try with_reducible rfl)
      try simp only [Act.put, List.setIfInBounds_toArray, List.set_cons_zero, List.set_cons_succ]
      refine wpAnyS_take [5, 9, 15, 16, 17, 18] (i := 4) (oi := ⟨_, _, _, _, _, _⟩) (v := ?_) (by simp) (by kernel_rfl) rfl (by kernel_rfl) (by kernel_rfl) (by kernel_rfl) (fun _ _ _ h => h) (Or.inl ⟨by rfl, ?_⟩) (by assumption) ?_
      rotate_left
      · (intro w hSw; (try dsimp only at hSw); go_simp; try with_reducible rfl)
      try simp only [Act.put, List.setIfInBounds_toArray, List.set_cons_zero, List.set_cons_succ]
      refine wpAnyS_take [9, 15, 16, 17, 18] (i := 5) (oi := ⟨_, _, _, _, _, _⟩) (v := ?_) (by simp) (by kernel_rfl) rfl (by kernel_rfl) (by kernel_rfl) (by kernel_rfl) (fun _ _ _ h => h) (Or.inl ⟨by rfl, ?_⟩) (by assumption) ?_
      rotate_left
      · (intro w hSw; (try dsimp only at hSw); go_simp; try with_reducible rfl)
      try simp only [Act.put, List.setIfInBounds_toArray, List.set_cons_zero, List.set_cons_succ]
      refine wpAnyS_take [7, 9, 15, 16, 17, 18] (i := 6) (oi := ⟨_, _, _, _, _, _⟩) (v := ?_) (by simp) (by kernel_rfl) rfl (by kernel_rfl) (by kernel_rfl) (by kernel_rfl) (fun _ _ _ h => h) (Or.inl ⟨by rfl, ?_⟩) (by assumption) ?_
      rotate_left
      · (intro w hSw; (try dsimp only at hSw); go_simp; try with_reducible rfl)
      try simp only [Act.put, List.setIfInBounds_toArray, List.set_cons_zero, List.set_cons_succ]
      refine wpAnyS_take [9, 15, 16, 17, 18] (i := 7) (oi := ⟨_, _, _, _, _, _⟩) (v := ?_) (by simp) (by kernel_rfl) rfl (by kernel_rfl) (by kernel_rfl) (by kernel_rfl) (fun _ _ _ h => h) (Or.inl ⟨by rfl, ?_⟩) (by assumption) ?_
      rotate_left
      · (intro w hSw; (try dsimp only at hSw); go_simp; try with_reducible rfl)
      try simp only [Act.put, List.setIfInBounds_toArray, List.set_cons_zero, List.set_cons_succ]
      refine wpAnyS_take [9, 15, 16, 17, 18] (i := 8) (oi := ⟨_, _, _, _, _, _⟩) (v := ?_) (by simp) (by kernel_rfl) rfl (by kernel_rfl) (by kernel_rfl) (by kernel_rfl) (fun _ _ _ h => h) (Or.inl ⟨by rfl, ?_⟩) (by assumption) ?_
      rotate_left
      · (intro w hSw; (try dsimp only at hSw); go_simp; try with_reducible rfl)
      try simp only [Act.put, List.setIfInBounds_toArray, List.set_cons_zero, List.set_cons_succ]
      refine wpAnyS_take [11, 15, 16, 17, 18] (i := 10) (oi := ⟨_, _, _, _, _, _⟩) (v := ?_) (by simp) (by kernel_rfl) rfl (by kernel_rfl) (by kernel_rfl) (by kernel_rfl) (fun _ _ _ h => h) (Or.inl ⟨by rfl, ?_⟩) (by assumption) ?_
      rotate_left
      · (intro w hSw; (try dsimp only at hSw); go_simp; try with_reducible rfl)
      try simp only [Act.put, List.setIfInBounds_toArray, List.set_cons_zero, List.set_cons_succ]
      refine wpAnyS_take [15, 16, 17, 18] (i := 11) (oi := ⟨_, _, _, _, _, _⟩) (v := ?_) (by simp) (by kernel_rfl) rfl (by kernel_rfl) (by kernel_rfl) (by kernel_rfl) (fun _ _ _ h => h) (Or.inl ⟨by rfl, ?_⟩) (by assumption) ?_
      rotate_left
      · (intro w hSw; (try dsimp only at hSw); go_simp; try with_reducible rfl)
      try simp only [Act.put, List.setIfInBounds_toArray, List.set_cons_zero, List.set_cons_succ]
      refine wpAnyS_take [13, 15, 16, 17, 18] (i := 12) (oi := ⟨_, _, _, _, _, _⟩) (v := ?_) (by simp) (by kernel_rfl) rfl (by kernel_rfl) (by kernel_rfl) (by kernel_rfl) (fun _ _ _ h => h) (Or.inl ⟨by rfl, ?_⟩) (by assumption) ?_
      rotate_left
      · (intro w hSw; (try dsimp only at hSw); go_simp; try with_reducible rfl)
      try simp only [Act.put, List.setIfInBounds_toArray, List.set_cons_zero, List.set_cons_succ]
      refine wpAnyS_take [15, 16, 17, 18] (i := 13) (oi := ⟨_, _, _, _, _, _⟩) (v := ?_) (by simp) (by kernel_rfl) rfl (by kernel_rfl) (by kernel_rfl) (by kernel_rfl) (fun _ _ _ h => h) (Or.inl ⟨by rfl, ?_⟩) (by assumption) ?_
      rotate_left
      · (intro w hSw; (try dsimp only at hSw); go_simp; try with_reducible rfl)
      try simp only [Act.put, List.setIfInBounds_toArray, List.set_cons_zero, List.set_cons_succ]
      refine wpAnyS_take [15, 16, 17, 18] (i := 14) (oi := ⟨_, _, _, _, _, _⟩) (v := ?_) (by simp) (by kernel_rfl) rfl (by kernel_rfl) (by kernel_rfl) (by kernel_rfl) (fun _ _ _ h => h) (Or.inl ⟨by rfl, ?_⟩) (by assumption) ?_
      rotate_left
      · (intro w hSw; (try dsimp only at hSw); go_simp; try with_reducible rfl)
      try simp only [Act.put, List.setIfInBounds_toArray, List.set_cons_zero, List.set_cons_succ]
      refine wpAnyS_one (i := 9) (oi := ⟨_, _, _, _, _, _⟩) rfl (by kernel_rfl) (fun K hK => ?_)
      go_simp
      go_at_call 57
      (with_reducible refine (M2.out _).mono ?_)
      rintro e wa ⟨rfl, hba⟩
      (try go_wp2_with fail)
      refine hK.out _ _ ?_ (fun hHeld9 => ?_)
      · exact ⟨cell_b hba hHeld.1, cell_b hba hHeld.2⟩
      clear hK K
      try simp only [Act.put, List.setIfInBounds_toArray, List.set_cons_zero, List.set_cons_succ]
      refine wpAnyS_one (i := 15) (oi := ⟨_, _, _, _, _, _⟩) rfl (by kernel_rfl) (fun K hK => ?_)
      go_simp
      go_at_call 57
      (with_reducible refine (M3.out _).mono ?_)
      rintro e wb ⟨rfl, hbb⟩
      (try go_wp2_with fail)
      refine hK.out _ _ ?_ (fun hHeld15 => ?_)
      · exact ⟨cell_b hbb hHeld9.1, cell_b hbb hHeld9.2⟩
      clear hK K
      try simp only [Act.put, List.setIfInBounds_toArray, List.set_cons_zero, List.set_cons_succ]
      refine wpAnyS_call (k := 16) (ok := ⟨_, _, _, _, _, _⟩) rfl (by kernel_rfl) (by kernel_rfl) (fun K hK => ?_)
      go_simp
      refine hK.out _ _ ?_
      clear hK K
      try simp only [Act.put, List.setIfInBounds_toArray, List.set_cons_zero, List.set_cons_succ]
      refine wpAny_take (i := 17) (oi := ⟨_, _, _, _, _, _⟩) (v := ?_) rfl (by kernel_rfl) (by kernel_rfl) (by kernel_rfl) (fun _ _ _ h => h) (Or.inl ⟨by rfl, ?_⟩) ?_
      rotate_left
      · (intro w; go_simp; try with_reducible rfl)
      try simp only [Act.put, List.setIfInBounds_toArray, List.set_cons_zero, List.set_cons_succ]
      refine wpAny_take (i := 18) (oi := ⟨_, _, _, _, _, _⟩) (v := ?_) rfl (by kernel_rfl) (by kernel_rfl) (by kernel_rfl) (fun _ _ _ h => h) (Or.inl ⟨by rfl, ?_⟩) ?_
      rotate_left
      · (intro w; go_simp; try with_reducible rfl)
      try simp only [Act.put, List.setIfInBounds_toArray, List.set_cons_zero, List.set_cons_succ]
      refine wpAny_done (by kernel_rfl) ?_ _
      have hBz := below_then (below_then hBd hba) hbb
      have kAz := (kAd.below hba kAd.lt).below hbb (kAd.below hba kAd.lt).lt
      have k1z := (k1d.below hba k1d.lt).below hbb (k1d.below hba k1d.lt).lt
      clear hba hbb hBd kAd k1d
      have c1z := kAz.cell 1
      go_wp2_with (first | (refine wpList_load_rowG (by rfl) 73 _ rfl _ rfl C rfl _ (comA c) (0, 0) _ k1z Tryz.underlying73 rfl (by rw [comA_size (c := c) HC.out]; exact com_size) ?_) | (go_at_call 53; (with_reducible refine (O1.out _ ?_).mono ?_); exact HT.out.below hBz; rintro e wq ⟨rfl, hb⟩; have hBq := below_then hBz hb; clear hb))
      go_ret
      exact ⟨rfl, hBq⟩

end Go.Proofs.YtebgmlbbilcbbaaGreatDoor
