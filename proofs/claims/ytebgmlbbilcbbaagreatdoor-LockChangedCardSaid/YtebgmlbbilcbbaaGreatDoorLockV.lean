/- The law LockChanged. -/
import Derived.Test.YtebgmlbbilcbbaaGreatDoorLockP
import Derived.Deep.CutBlock
namespace Go.Proofs.YtebgmlbbilcbbaaGreatDoor
open Go.RowKit
attribute [local go_sem] Oper.semAt_some

theorem wrap64_bd (z : Int) : I64 (wrap64 z) := by unfold I64 wrap64; omega
theorem byteU_of (q : Int) : ∃ y : UInt8, IntKind.u8.wrap q = (y.toNat : Int) := ⟨UInt8.ofNat (q % 256).toNat, by rw [u8_wrap, UInt8.toNat_ofNat']; omega⟩
theorem com_set0 (c : Com) (z : Int) : (comA c).setIfInBounds 0 (.int .i64 z) = comA ⟨z, c.hash, c.box⟩ := rfl
theorem com_setH {c : Com} (h : c.hash.length = 32) {j : Nat} (hj : j < 32) (z : UInt8) : (comA c).setIfInBounds (1 + j) (.int .u8 (z.toNat : Int)) = comA ⟨c.who, c.hash.set j z, c.box⟩ := by
  unfold comA comCells
  rw [List.setIfInBounds_toArray, Nat.add_comm, List.set_cons_succ, List.set_append_left _ _ (by rw [u8l_len, h]; exact hj)]
  unfold u8l
  rw [List.map_set]
theorem recover_both (c : Com) (round sq : Int) (hc : c.hash.length = 32) (h1 : I64 c.who) (h2 : I64 round) (hs : c.box.length ≤ 1000) :
    ∃ (s : ByteArray) (b : Bool), RetT 52 #[.agg (comA c), .int .i64 round, .int .i64 sq] (.tuple #[.string s, .bool b]) ∧
      Ret 55 #[.agg (comA c), .int .i64 round, .int .i64 sq] (.tuple #[.string s, .bool b]) ∧
      (b = true → RetT 53 #[.agg (comA c), .int .i64 round, .string s] (.bool true)) := by
  cases h : okSq c.box.length sq with
  | true =>
    obtain ⟨a1, a2, a3⟩ := of_decide_eq_true h
    obtain ⟨k, rfl⟩ := Int.eq_ofNat_of_zero_le (show 0 ≤ sq by omega)
    have y1 := Recover_yes c round k hc h1 h2 a1 (by omega) (by omega)
    have y2 := rRecover_yes c round k hc h1 h2 a1 (by omega) (by omega)
    unfold recoverV at y1 y2
    by_cases ho : opensR c round (boxed c.who round c.hash k c.box) = true
    · rw [if_pos ho] at y1 y2
      refine ⟨_, true, y1, y2, fun _ => ?_⟩
      have o := Opens_q c round (strB (boxed c.who round c.hash k c.box)) hc h1 h2 (by rw [strB_size, boxed_len]; omega)
      rwa [strB_list, ho] at o
    · rw [if_neg ho] at y1 y2
      exact ⟨_, false, y1, y2, fun h => by cases h⟩
  | false => exact ⟨⟨#[]⟩, false, fun W _ => Recover_no c round sq hc (by omega) h W, rRecover_no c round sq hc (by omega) h, fun h => by cases h⟩

set_option maxRecDepth 100000 in
set_option maxHeartbeats 4000000 in
theorem LockChanged_any (who round : Int) (s : ByteArray) (q0 q1 q2 : Int) (w : World) (hT : Tabs w) (h1 : I64 who) (h2 : I64 round) (hs : s.size ≤ 9223372036854775807) (_hq0 : I64 q0) (_hq1 : I64 q1) (_hq2 : I64 q2) :
    Calls Tryz.prog 11 #[.agg #[.int .i64 who, .int .i64 round], .string s, .agg #[.int .i64 q0, .int .i64 q1, .int .i64 q2]] w fun e w' => e = .returned (.bool true) ∧ Below w.heap.size w w' := by
  have HT := Lib.hid hT
  clear hT
  have ms := Lib.hid sanity11
  have mc : Hid (Ret 49 #[.string s, .int .i64 100] (.string (cutS s 100))) := Lib.hid (cut_q s 100 hs (by omega))
  have ht := cutS_le s 100
  generalize cutS s 100 = t at mc ht
  obtain ⟨c, hc, M1, hwho, hboxl⟩ : ∃ c : Com, Hid (c.hash.length = 32) ∧ Hid (Ret 51 #[.int .i64 who, .int .i64 round, .string t, .int .i64 4] (.tuple #[.agg (comA c), .bool true])) ∧ I64 c.who ∧ c.box.length ≤ 100 :=
    ⟨_, Lib.hid (made_len _ _ _ _), Lib.hid (rCommit_yes who round t 4 h1 h2 ht (by omega) (by omega)), h1, by rw [made_box, size_len]; exact ht⟩
  have HC := hc
  obtain ⟨m, hm, hm0, hm7⟩ : ∃ m : Int, m = q0 % 7 ∧ 0 ≤ m ∧ m < 7 := ⟨_, rfl, by omega, by omega⟩
  have mm : Hid (Ret 54 #[.int .i64 q0, .int .i64 7] (.int .i64 m)) := Lib.hid (hm ▸ Mod_q q0 7 (by omega) (by omega))
  clear hm hc
  go_enter Tryz.func11, Tryz.ntmps11
  go_upto_region 1 with fail
  refine name2e #[.int .i64 who, .int .i64 round] #[.int .i64 q0, .int .i64 q1, .int .i64 q2] rfl rfl ?_
  intro w0 kA kB hB _
  obtain ⟨BA, hBA⟩ : ∃ B, B = w.heap.size := ⟨_, rfl⟩
  rw [← hBA] at kA kB ⊢
  have hgA : w.heap.size ≤ BA := by omega
  clear hBA
  go_upto_region 3 with (first
    | (go_at_call 48; (with_reducible refine (ms.out _ ?_).mono ?_); exact HT.out.below hB; rintro e wz ⟨rfl, hb⟩; replace kA := kA.below hb kA.lt; replace kB := kB.below hb kB.lt; replace hB := below_then hB hb; clear hb)
    | (go_at_call 49; (with_reducible refine (mc.out _).mono ?_); rintro e wz ⟨rfl, hb⟩; replace kA := kA.below hb kA.lt; replace kB := kB.below hb kB.lt; replace hB := below_then hB hb; clear hb))
  have c0 : wz.cell? ⟨BA, 0, none⟩ = some (.int .i64 who) := kA.cell 0
  have c1 : wz.cell? ⟨BA, 1, none⟩ = some (.int .i64 round) := kA.cell 1
  go_upto_region 4 with (first
    | (go_at_call 51; (with_reducible refine (M1.out _).mono ?_); rintro e wy ⟨rfl, hb⟩; replace kA := kA.below hb kA.lt; replace kB := kB.below hb kB.lt; replace hB := below_then hB hb; clear hb)
    | (refine wpList_store_rowTo rfl 73 _ _ rfl rfl _ (comA c) rfl rfl _ _ (Blk.new _ _ _) (by rw [comA_size (c := c) HC.out]; exact com_size) (by rw [comA_size (c := c) HC.out]; rfl) (comA_one _) ?_))
  refine nameStored (comA c) ?_
  intro w1 k1 hb
  have hgC : w.heap.size ≤ wy.heap.size := hB.size
  have zB := kB.lt
  replace hB := below_then hB hb
  replace kA := kA.below hb kA.lt
  replace kB := kB.below hb kB.lt
  clear hb c0 c1
  generalize wy.heap.size = C at k1 hgC zB ⊢
  have c1 : w1.cell? ⟨BA, 1, none⟩ = some (.int .i64 round) := kA.cell 1
  have e0 : w1.cell? ⟨BA + 1, 0, none⟩ = some (.int .i64 q0) := kB.cell 0
  go_upto_block 0 with (first | (go_at_call 54; (with_reducible refine (mm.out _).mono ?_); rintro e wx ⟨rfl, hb⟩; replace k1 := k1.below hb k1.lt; replace kA := kA.below hb kA.lt; replace kB := kB.below hb kB.lt; replace hB := below_then hB hb; clear hb))
  clear e0 c1
  go_cut [10, 11] (fun s10 s11 wx => ∃ (D : Com) (r sq : Int), s10 = .int .i64 r ∧ s11 = .int .i64 sq ∧ Hid (D.hash.length = 32) ∧ I64 D.who ∧ I64 r ∧ D.box.length ≤ 1000 ∧ I64 sq ∧ Blk wx C 73 (comA D) ∧ Below w.heap.size w wx)
  case first =>
    have hm' : m = 0 ∨ m = 1 ∨ m = 2 ∨ m = 3 ∨ m = 4 ∨ m = 5 ∨ m = 6 := by omega
    have q1c : wx.cell? ⟨BA + 1, 1, none⟩ = some (.int .i64 q1) := kB.cell 1
    have q2c : wx.cell? ⟨BA + 1, 2, none⟩ = some (.int .i64 q2) := kB.cell 2
    clear hm0 hm7 mc ms M1 HT
    rcases hm' with rfl | rfl | rfl | rfl | rfl | rfl | rfl
    · skip
      obtain ⟨j, hj, hj32⟩ : ∃ j : Nat, q1 % 32 = (j : Int) ∧ j < 32 := ⟨(q1 % 32).toNat, by omega, by omega⟩
      have mj : Hid (Ret 54 #[.int .i64 q1, .int .i64 32] (.int .i64 (j : Int))) := Lib.hid (hj ▸ Mod_q q1 32 (by omega) (by omega))
      obtain ⟨b, hb⟩ : ∃ b, c.hash[j]? = some b := ⟨_, List.getElem?_eq_getElem (by rw [HC.out]; exact hj32)⟩
      have cj : wx.cell? ⟨C, 1 + j, none⟩ = some (.int .u8 (b.toNat : Int)) := (k1.cell (1 + j)).trans (com_byte hb)
      obtain ⟨y, hy⟩ := byteU_of q2
      obtain ⟨z, hz⟩ : ∃ z : UInt8, bits .xor .u8 (b.toNat : Int) (y.toNat : Int) = (z.toNat : Int) := ⟨_, u8_xor b y⟩
      have hj' : (j : Int) < 32 := by omega
      clear hj hb mm
      go_upto_region 8 with fail
      have hBd := hB.drew
      have k1d : Blk _ C 73 (comA c) := k1.below (Below.refl _ _).drew k1.lt
      refine region_here (fun Z : World => Z.cell? ⟨C, 1 + j, none⟩ = some (.int .u8 (b.toNat : Int)) ∧ Z.cell? ⟨BA + 1, 1, none⟩ = some (.int .i64 q1) ∧ Z.cell? ⟨BA + 1, 2, none⟩ = some (.int .i64 q2)) 12 (by kernel_rfl) ⟨cj, q1c, q2c⟩ (fun hHeld => ?_)
      refine wpAnyS_take [1, 2, 4, 5, 9, 11, 12] (i := 0) (oi := ⟨_, _, _, _, _, _⟩) (v := ?_) (by simp) (by kernel_rfl) rfl (by kernel_rfl) (by kernel_rfl) (by kernel_rfl) (fun _ _ _ h => h) (Or.inl ⟨by rfl, ?_⟩) (by assumption) ?_
      rotate_left
      · (intro w hSw; (try dsimp only at hSw); go_simp; try with_reducible rfl)
      try simp only [Act.put, List.setIfInBounds_toArray, List.set_cons_zero, List.set_cons_succ]
      refine wpAnyS_take [2, 4, 5, 9, 11, 12] (i := 1) (oi := ⟨_, _, _, _, _, _⟩) (v := ?_) (by simp) (by kernel_rfl) rfl (by kernel_rfl) (by kernel_rfl) (by kernel_rfl) (fun _ _ _ h => h) (Or.inl ⟨by rfl, ?_⟩) (by assumption) ?_
      rotate_left
      · (intro w hSw; (try dsimp only at hSw); go_simp; try with_reducible rfl)
      try simp only [Act.put, List.setIfInBounds_toArray, List.set_cons_zero, List.set_cons_succ]
      refine wpAnyS_take [4, 5, 9, 11, 12] (i := 3) (oi := ⟨_, _, _, _, _, _⟩) (v := ?_) (by simp) (by kernel_rfl) rfl (by kernel_rfl) (by kernel_rfl) (by kernel_rfl) (fun _ _ _ h => h) (Or.inl ⟨by rfl, ?_⟩) (by assumption) ?_
      rotate_left
      · (intro w hSw; (try dsimp only at hSw); go_simp; try with_reducible rfl)
      try simp only [Act.put, List.setIfInBounds_toArray, List.set_cons_zero, List.set_cons_succ]
      refine wpAnyS_take [7, 8, 9, 11, 12] (i := 6) (oi := ⟨_, _, _, _, _, _⟩) (v := ?_) (by simp) (by kernel_rfl) rfl (by kernel_rfl) (by kernel_rfl) (by kernel_rfl) (fun _ _ _ h => h) (Or.inl ⟨by rfl, ?_⟩) (by assumption) ?_
      rotate_left
      · (intro w hSw; (try dsimp only at hSw); go_simp; try with_reducible rfl)
      try simp only [Act.put, List.setIfInBounds_toArray, List.set_cons_zero, List.set_cons_succ]
      refine wpAnyS_take [8, 9, 11, 12] (i := 7) (oi := ⟨_, _, _, _, _, _⟩) (v := ?_) (by simp) (by kernel_rfl) rfl (by kernel_rfl) (by kernel_rfl) (by kernel_rfl) (fun _ _ _ h => h) (Or.inl ⟨by rfl, ?_⟩) (by assumption) ?_
      rotate_left
      · (intro w hSw; (try dsimp only at hSw); go_simp; try with_reducible rfl)
      try simp only [Act.put, List.setIfInBounds_toArray, List.set_cons_zero, List.set_cons_succ]
      refine wpAnyS_take [9, 11, 12] (i := 8) (oi := ⟨_, _, _, _, _, _⟩) (v := ?_) (by simp) (by kernel_rfl) rfl (by kernel_rfl) (by kernel_rfl) (by kernel_rfl) (fun _ _ _ h => h) (Or.inl ⟨by rfl, ?_⟩) (by assumption) ?_
      rotate_left
      · (intro w hSw; (try dsimp only at hSw); go_simp; try with_reducible rfl)
      try simp only [Act.put, List.setIfInBounds_toArray, List.set_cons_zero, List.set_cons_succ]
      refine wpAnyS_take [11, 12] (i := 10) (oi := ⟨_, _, _, _, _, _⟩) (v := ?_) (by simp) (by kernel_rfl) rfl (by kernel_rfl) (by kernel_rfl) (by kernel_rfl) (fun _ _ _ h => h) (Or.inl ⟨by rfl, ?_⟩) (by assumption) ?_
      rotate_left
      · (intro w hSw; (try dsimp only at hSw); go_simp; try with_reducible rfl)
      try simp only [Act.put, List.setIfInBounds_toArray, List.set_cons_zero, List.set_cons_succ]
      refine wpAnyS_one (i := 2) (oi := ⟨_, _, _, _, _, _⟩) rfl (by kernel_rfl) (fun K hK => ?_)
      go_simp
      go_at_call 54
      (with_reducible refine (mj.out _).mono ?_)
      rintro e wa ⟨rfl, hba⟩
      (try go_wp2_with fail)
      refine hK.out _ _ ?_ (fun hHeld2 => ?_)
      · exact ⟨cell_b hba hHeld.1, cell_b hba hHeld.2.1, cell_b hba hHeld.2.2⟩
      clear hK K
      try simp only [Act.put, List.setIfInBounds_toArray, List.set_cons_zero, List.set_cons_succ]
      refine wpAnyS_take [5, 9, 11, 12] (i := 4) (oi := ⟨_, _, _, _, _, _⟩) (v := ?_) (by simp) (by kernel_rfl) rfl (by kernel_rfl) (by kernel_rfl) (by kernel_rfl) (fun _ _ _ h => h) (Or.inl ⟨by rfl, ?_⟩) (by assumption) ?_
      rotate_left
      · (intro w hSw; (try dsimp only at hSw); go_simp; try with_reducible rfl)
      try simp only [Act.put, List.setIfInBounds_toArray, List.set_cons_zero, List.set_cons_succ]
      refine wpAnyS_take [9, 11, 12] (i := 5) (oi := ⟨_, _, _, _, _, _⟩) (v := ?_) (by simp) (by kernel_rfl) rfl (by kernel_rfl) (by kernel_rfl) (by kernel_rfl) (fun _ _ _ h => h) (Or.inl ⟨by rfl, ?_⟩) (by assumption) ?_
      rotate_left
      · (intro w hSw; (try dsimp only at hSw); go_simp; try with_reducible rfl)
      try simp only [Act.put, List.setIfInBounds_toArray, List.set_cons_zero, List.set_cons_succ]
      refine wpAnyS_take [11, 12] (i := 9) (oi := ⟨_, _, _, _, _, _⟩) (v := ?_) (by simp) (by kernel_rfl) rfl (by kernel_rfl) (by kernel_rfl) (by kernel_rfl) (fun _ _ _ h => h) (Or.inl ⟨by rfl, ?_⟩) (by assumption) ?_
      rotate_left
      · (intro w hSw; (try dsimp only at hSw); go_simp; try with_reducible rfl)
      try simp only [Act.put, List.setIfInBounds_toArray, List.set_cons_zero, List.set_cons_succ]
      refine wpAnyS_take [12] (i := 11) (oi := ⟨_, _, _, _, _, _⟩) (v := ?_) (by simp) (by kernel_rfl) rfl (by kernel_rfl) (by kernel_rfl) (by kernel_rfl) (fun _ _ _ h => h) (Or.inl ⟨by rfl, ?_⟩) (by assumption) ?_
      rotate_left
      · (intro w hSw; (try dsimp only at hSw); go_simp; try with_reducible rfl)
      try simp only [Act.put, List.setIfInBounds_toArray, List.set_cons_zero, List.set_cons_succ]
      refine wpAnyS_call (k := 12) (ok := ⟨_, _, _, _, _, _⟩) rfl (by kernel_rfl) (by kernel_rfl) (fun K hK => ?_)
      have cj2 := hHeld2.1
      have fj := (k1d.below hba k1d.lt).frozen (1 + j)
      go_simp
      refine hK.out _ _ ?_
      clear hK K
      try simp only [Act.put, List.setIfInBounds_toArray, List.set_cons_zero, List.set_cons_succ]
      refine wpAny_done (by kernel_rfl) ?_ _
      have k1s := (k1d.below hba k1d.lt).set_ (1 + j) (.int .u8 (z.toNat : Int))
      rw [com_setH HC.out hj32] at k1s
      have hBs := below_set (below_then hBd hba) (p := ⟨C, 1 + j, none⟩) hgC (.int .u8 (z.toNat : Int))
      go_wp2_with fail
      go_meet
      exact ⟨⟨c.who, c.hash.set j z, c.box⟩, round, 4, rfl, rfl, Lib.hid (by rw [List.length_set]; exact HC.out), hwho, h2, Nat.le_trans hboxl (by decide), i64_small (by decide) (by decide), k1s, hBs⟩
    · skip
      obtain ⟨u, hu⟩ : ∃ u, u = strB c.box := ⟨_, rfl⟩
      have hul : u.size ≤ 100 := by rw [hu, strB_size]; exact hboxl
      have hd33 : wx.cell? ⟨C, 33, none⟩ = some (.string u) := by rw [hu]; exact (k1.cell 33).trans (com_box HC.out)
      clear mm hu
      by_cases hu0 : 0 < u.size
      · have hu0' : (0 : Int) < (u.size : Int) := by omega
        obtain ⟨j, hj, hju⟩ : ∃ j : Nat, q1 % (u.size : Int) = (j : Int) ∧ j < u.size := ⟨(q1 % (u.size : Int)).toNat, by have := Int.emod_nonneg q1 (show (u.size : Int) ≠ 0 by omega); omega, by have := Int.emod_lt_of_pos q1 hu0'; have := Int.emod_nonneg q1 (show (u.size : Int) ≠ 0 by omega); omega⟩
        have mj : Hid (Ret 54 #[.int .i64 q1, .int .i64 (u.size : Int)] (.int .i64 (j : Int))) := Lib.hid (hj ▸ Mod_q q1 (u.size : Int) hu0' (by omega))
        obtain ⟨y, hy⟩ := byteU_of q2
        obtain ⟨z, hz⟩ : ∃ z : UInt8, bits .xor .u8 (u[j].toNat : Int) (y.toNat : Int) = (z.toNat : Int) := ⟨_, u8_xor u[j] y⟩
        have hcv : ∀ W : World, (convert 22 9 (.slice (some ⟨W.heap.size, 0, none⟩) 1 1)).run Tryz.prog (W.alloc (.cells #[.int .u8 (z.toNat : Int)] 5)) = .ok (.string ⟨[z].toArray⟩) (W.alloc (.cells #[.int .u8 (z.toNat : Int)] 5)) :=
          fun W => run_bdg_str ((Blk.new W 5 (u8a [z])).bdg rfl (Nat.le_refl _))
        obtain ⟨j1, hj1, hj1u⟩ : ∃ j1 : Nat, IntKind.i64.wrap ((j : Int) + 1) = (j1 : Int) ∧ j1 ≤ u.size := ⟨j + 1, IntWalk.i64_in _ (by omega), by omega⟩
        obtain ⟨P1, hP1, hp1⟩ : ∃ P1, u.extract 0 j = P1 ∧ P1.size ≤ 100 := ⟨_, rfl, by rw [ByteArray.size_extract]; omega⟩
        obtain ⟨P2, hP2, hp2⟩ : ∃ P2, u.extract j1 u.size = P2 ∧ P2.size ≤ 100 := ⟨_, rfl, by rw [ByteArray.size_extract]; omega⟩
        obtain ⟨X, hX, hXl⟩ : ∃ X : List UInt8, (P1 ++ ⟨#[z]⟩) ++ P2 = strB X ∧ X.length ≤ 1000 := ⟨((P1 ++ ⟨#[z]⟩) ++ P2).data.toList, (bytes_eq (strB_list _)).symm, by rw [size_len, ByteArray.size_append, ByteArray.size_append]; show P1.size + 1 + P2.size ≤ 1000; omega⟩
        have z1 : ¬ 9223372036854775807 < P1.size + 1 := by omega
        have z2 : ¬ 9223372036854775807 < P1.size + 1 + P2.size := by omega
        have hju' : (j : Int) < (u.size : Int) := by omega
        have hju2 : (j : Int) ≤ (u.size : Int) := by omega
        have hju3 : (j1 : Int) ≤ (u.size : Int) := by omega
        clear hj
        go_upto_region 12 with (go_at_call 54; (with_reducible refine (mj.out _).mono ?_); rintro e wc ⟨rfl, hb⟩; have hd3b := cell_b hb hd33; have q2b := cell_b hb q2c; replace k1 := k1.below hb k1.lt; replace hB := below_then hB hb; clear hb)
        clear mj
        have hBd := hB.drew
        have k1d : Blk _ C 73 (comA c) := k1.below (Below.refl _ _).drew k1.lt
        have hcvd : (convert 22 9 (.slice (some ⟨wc.heap.size, 0, none⟩) 1 1)).run Tryz.prog (wc.alloc (.cells #[.int .u8 (z.toNat : Int)] 5)).drew = .ok (.string ⟨[z].toArray⟩) (wc.alloc (.cells #[.int .u8 (z.toNat : Int)] 5)).drew := hcv wc.drew
        refine region_here (fun Z : World => Z.cell? ⟨C, 33, none⟩ = some (.string u) ∧ Z.cell? ⟨BA + 1, 2, none⟩ = some (.int .i64 q2)) 22 (by kernel_rfl) ⟨hd3b, q2b⟩ (fun hHeld => ?_)
        refine wpAnyS_take [1, 3, 14, 20, 21, 22] (i := 0) (oi := ⟨_, _, _, _, _, _⟩) (v := ?_) (by simp) (by kernel_rfl) rfl (by kernel_rfl) (by kernel_rfl) (by kernel_rfl) (fun _ _ _ h => h) (Or.inl ⟨by rfl, ?_⟩) (by assumption) ?_
        rotate_left
        · (intro w hSw; (try dsimp only at hSw); go_simp; try with_reducible rfl)
        try simp only [Act.put, List.setIfInBounds_toArray, List.set_cons_zero, List.set_cons_succ]
        refine wpAnyS_take [3, 14, 20, 21, 22] (i := 1) (oi := ⟨_, _, _, _, _, _⟩) (v := ?_) (by simp) (by kernel_rfl) rfl (by kernel_rfl) (by kernel_rfl) (by kernel_rfl) (fun _ _ _ h => h) (Or.inl ⟨by rfl, ?_⟩) (by assumption) ?_
        rotate_left
        · (intro w hSw; (try dsimp only at hSw); go_simp; try with_reducible rfl)
        try simp only [Act.put, List.setIfInBounds_toArray, List.set_cons_zero, List.set_cons_succ]
        refine wpAnyS_take [3, 14, 20, 21, 22] (i := 2) (oi := ⟨_, _, _, _, _, _⟩) (v := ?_) (by simp) (by kernel_rfl) rfl (by kernel_rfl) (by kernel_rfl) (by kernel_rfl) (fun _ _ _ h => h) (Or.inl ⟨by rfl, ?_⟩) (by assumption) ?_
        rotate_left
        · (intro w hSw; (try dsimp only at hSw); go_simp; try with_reducible rfl)
        try simp only [Act.put, List.setIfInBounds_toArray, List.set_cons_zero, List.set_cons_succ]
        refine wpAnyS_take [14, 20, 21, 22] (i := 3) (oi := ⟨_, _, _, _, _, _⟩) (v := ?_) (by simp) (by kernel_rfl) rfl (by kernel_rfl) (by kernel_rfl) (by kernel_rfl) (fun _ _ _ h => h) (Or.inl ⟨by rfl, ?_⟩) (by assumption) ?_
        rotate_left
        · (intro w hSw; (try dsimp only at hSw); go_simp; try with_reducible rfl)
        try simp only [Act.put, List.setIfInBounds_toArray, List.set_cons_zero, List.set_cons_succ]
        refine wpAnyS_take [5, 7, 11, 12, 13, 14, 20, 21, 22] (i := 4) (oi := ⟨_, _, _, _, _, _⟩) (v := ?_) (by simp) (by kernel_rfl) rfl (by kernel_rfl) (by kernel_rfl) (by kernel_rfl) (fun _ _ _ h => h) (Or.inl ⟨by rfl, ?_⟩) (by assumption) ?_
        rotate_left
        · (intro w hSw; (try dsimp only at hSw); go_simp; try with_reducible rfl)
        try simp only [Act.put, List.setIfInBounds_toArray, List.set_cons_zero, List.set_cons_succ]
        refine wpAnyS_take [7, 11, 12, 13, 14, 20, 21, 22] (i := 5) (oi := ⟨_, _, _, _, _, _⟩) (v := ?_) (by simp) (by kernel_rfl) rfl (by kernel_rfl) (by kernel_rfl) (by kernel_rfl) (fun _ _ _ h => h) (Or.inl ⟨by rfl, ?_⟩) (by assumption) ?_
        rotate_left
        · (intro w hSw; (try dsimp only at hSw); go_simp; try with_reducible rfl)
        try simp only [Act.put, List.setIfInBounds_toArray, List.set_cons_zero, List.set_cons_succ]
        refine wpAnyS_take [7, 11, 12, 13, 14, 20, 21, 22] (i := 6) (oi := ⟨_, _, _, _, _, _⟩) (v := ?_) (by simp) (by kernel_rfl) rfl (by kernel_rfl) (by kernel_rfl) (by kernel_rfl) (fun _ _ _ h => h) (Or.inl ⟨by rfl, ?_⟩) (by assumption) ?_
        rotate_left
        · (intro w hSw; (try dsimp only at hSw); go_simp; try with_reducible rfl)
        try simp only [Act.put, List.setIfInBounds_toArray, List.set_cons_zero, List.set_cons_succ]
        refine wpAnyS_take [11, 12, 13, 14, 20, 21, 22] (i := 7) (oi := ⟨_, _, _, _, _, _⟩) (v := ?_) (by simp) (by kernel_rfl) rfl (by kernel_rfl) (by kernel_rfl) (by kernel_rfl) (fun _ _ _ h => h) (Or.inl ⟨by rfl, ?_⟩) (by assumption) ?_
        rotate_left
        · (intro w hSw; (try dsimp only at hSw); go_simp; try with_reducible rfl)
        try simp only [Act.put, List.setIfInBounds_toArray, List.set_cons_zero, List.set_cons_succ]
        refine wpAnyS_take [9, 10, 11, 12, 13, 14, 20, 21, 22] (i := 8) (oi := ⟨_, _, _, _, _, _⟩) (v := ?_) (by simp) (by kernel_rfl) rfl (by kernel_rfl) (by kernel_rfl) (by kernel_rfl) (fun _ _ _ h => h) (Or.inl ⟨by rfl, ?_⟩) (by assumption) ?_
        rotate_left
        · (intro w hSw; (try dsimp only at hSw); go_simp; try with_reducible rfl)
        try simp only [Act.put, List.setIfInBounds_toArray, List.set_cons_zero, List.set_cons_succ]
        refine wpAnyS_take [10, 11, 12, 13, 14, 20, 21, 22] (i := 9) (oi := ⟨_, _, _, _, _, _⟩) (v := ?_) (by simp) (by kernel_rfl) rfl (by kernel_rfl) (by kernel_rfl) (by kernel_rfl) (fun _ _ _ h => h) (Or.inl ⟨by rfl, ?_⟩) (by assumption) ?_
        rotate_left
        · (intro w hSw; (try dsimp only at hSw); go_simp; try with_reducible rfl)
        try simp only [Act.put, List.setIfInBounds_toArray, List.set_cons_zero, List.set_cons_succ]
        refine wpAnyS_take [11, 12, 13, 14, 20, 21, 22] (i := 10) (oi := ⟨_, _, _, _, _, _⟩) (v := ?_) (by simp) (by kernel_rfl) rfl (by kernel_rfl) (by kernel_rfl) (by kernel_rfl) (fun _ _ _ h => h) (Or.inl ⟨by rfl, ?_⟩) (by assumption) ?_
        rotate_left
        · (intro w hSw; (try dsimp only at hSw); go_simp; try with_reducible rfl)
        try simp only [Act.put, List.setIfInBounds_toArray, List.set_cons_zero, List.set_cons_succ]
        refine wpAnyS_take [12, 13, 14, 20, 21, 22] (i := 11) (oi := ⟨_, _, _, _, _, _⟩) (v := ?_) (by simp) (by kernel_rfl) rfl (by kernel_rfl) (by kernel_rfl) (by kernel_rfl) (fun _ _ _ h => h) (Or.inl ⟨by rfl, ?_⟩) (by assumption) ?_
        rotate_left
        · (intro w hSw; (try dsimp only at hSw); go_simp; try with_reducible rfl)
        try simp only [Act.put, List.setIfInBounds_toArray, List.set_cons_zero, List.set_cons_succ]
        refine wpAnyS_take [16, 19, 20, 21, 22] (i := 15) (oi := ⟨_, _, _, _, _, _⟩) (v := ?_) (by simp) (by kernel_rfl) rfl (by kernel_rfl) (by kernel_rfl) (by kernel_rfl) (fun _ _ _ h => h) (Or.inl ⟨by rfl, ?_⟩) (by assumption) ?_
        rotate_left
        · (intro w hSw; (try dsimp only at hSw); go_simp; try with_reducible rfl)
        try simp only [Act.put, List.setIfInBounds_toArray, List.set_cons_zero, List.set_cons_succ]
        refine wpAnyS_take [19, 20, 21, 22] (i := 16) (oi := ⟨_, _, _, _, _, _⟩) (v := ?_) (by simp) (by kernel_rfl) rfl (by kernel_rfl) (by kernel_rfl) (by kernel_rfl) (fun _ _ _ h => h) (Or.inl ⟨by rfl, ?_⟩) (by assumption) ?_
        rotate_left
        · (intro w hSw; (try dsimp only at hSw); go_simp; try with_reducible rfl)
        try simp only [Act.put, List.setIfInBounds_toArray, List.set_cons_zero, List.set_cons_succ]
        refine wpAnyS_take [18, 19, 20, 21, 22] (i := 17) (oi := ⟨_, _, _, _, _, _⟩) (v := ?_) (by simp) (by kernel_rfl) rfl (by kernel_rfl) (by kernel_rfl) (by kernel_rfl) (fun _ _ _ h => h) (Or.inl ⟨by rfl, ?_⟩) (by assumption) ?_
        rotate_left
        · (intro w hSw; (try dsimp only at hSw); go_simp; try with_reducible rfl)
        try simp only [Act.put, List.setIfInBounds_toArray, List.set_cons_zero, List.set_cons_succ]
        refine wpAnyS_take [19, 20, 21, 22] (i := 18) (oi := ⟨_, _, _, _, _, _⟩) (v := ?_) (by simp) (by kernel_rfl) rfl (by kernel_rfl) (by kernel_rfl) (by kernel_rfl) (fun _ _ _ h => h) (Or.inl ⟨by rfl, ?_⟩) (by assumption) ?_
        rotate_left
        · (intro w hSw; (try dsimp only at hSw); go_simp; try with_reducible rfl)
        try simp only [Act.put, List.setIfInBounds_toArray, List.set_cons_zero, List.set_cons_succ]
        refine wpAnyS_take [20, 21, 22] (i := 19) (oi := ⟨_, _, _, _, _, _⟩) (v := ?_) (by simp) (by kernel_rfl) rfl (by kernel_rfl) (by kernel_rfl) (by kernel_rfl) (fun _ _ _ h => h) (Or.inl ⟨by rfl, ?_⟩) (by assumption) ?_
        rotate_left
        · (intro w hSw; (try dsimp only at hSw); go_simp; try with_reducible rfl)
        try simp only [Act.put, List.setIfInBounds_toArray, List.set_cons_zero, List.set_cons_succ]
        refine wpAnyS_one (i := 12) (oi := ⟨_, _, _, _, _, _⟩) rfl (by kernel_rfl) (fun K hK => ?_)
        have hbz := below_al (Below.refl wc.drew.heap.size wc.drew) (.cells #[.int .u8 (z.toNat : Int)] 5)
        go_simp
        refine hK.out _ _ ?_ (fun hHeld12 => ?_)
        · exact ⟨cell_b (below_al (Below.refl _ _) _) hHeld.1, cell_b (below_al (Below.refl _ _) _) hHeld.2⟩
        clear hK K
        try simp only [Act.put, List.setIfInBounds_toArray, List.set_cons_zero, List.set_cons_succ]
        refine wpAnyS_one (i := 13) (oi := ⟨_, _, _, _, _, _⟩) rfl (by kernel_rfl) (fun K hK => ?_)
        go_simp
        refine hK.out _ _ ?_ (fun hHeld13 => ?_)
        · exact hHeld12
        clear hK K
        try simp only [Act.put, List.setIfInBounds_toArray, List.set_cons_zero, List.set_cons_succ]
        refine wpAnyS_take [20, 21, 22] (i := 14) (oi := ⟨_, _, _, _, _, _⟩) (v := ?_) (by simp) (by kernel_rfl) rfl (by kernel_rfl) (by kernel_rfl) (by kernel_rfl) (fun _ _ _ h => h) (Or.inl ⟨by rfl, ?_⟩) (by assumption) ?_
        rotate_left
        · (intro w hSw; (try dsimp only at hSw); go_simp; try with_reducible rfl)
        try simp only [Act.put, List.setIfInBounds_toArray, List.set_cons_zero, List.set_cons_succ]
        refine wpAnyS_take [21, 22] (i := 20) (oi := ⟨_, _, _, _, _, _⟩) (v := ?_) (by simp) (by kernel_rfl) rfl (by kernel_rfl) (by kernel_rfl) (by kernel_rfl) (fun _ _ _ h => h) (Or.inl ⟨by rfl, ?_⟩) (by assumption) ?_
        rotate_left
        · (intro w hSw; (try dsimp only at hSw); go_simp; try with_reducible rfl)
        try simp only [Act.put, List.setIfInBounds_toArray, List.set_cons_zero, List.set_cons_succ]
        refine wpAnyS_take [22] (i := 21) (oi := ⟨_, _, _, _, _, _⟩) (v := ?_) (by simp) (by kernel_rfl) rfl (by kernel_rfl) (by kernel_rfl) (by kernel_rfl) (fun _ _ _ h => h) (Or.inl ⟨by rfl, ?_⟩) (by assumption) ?_
        rotate_left
        · (intro w hSw; (try dsimp only at hSw); go_simp; try with_reducible rfl)
        try simp only [Act.put, List.setIfInBounds_toArray, List.set_cons_zero, List.set_cons_succ]
        refine wpAnyS_call (k := 22) (ok := ⟨_, _, _, _, _, _⟩) rfl (by kernel_rfl) (by kernel_rfl) (fun K hK => ?_)
        have f33 : (wc.alloc (.cells #[.int .u8 (z.toNat : Int)] 5)).drew.frozen? ⟨C, 33, none⟩ = false := (k1d.below hbz k1d.lt).frozen 33
        have c33 : (wc.alloc (.cells #[.int .u8 (z.toNat : Int)] 5)).drew.cell? ⟨C, 33, none⟩ = (comA c)[33]? := (k1d.below hbz k1d.lt).cell 33
        rw [com_box HC.out] at c33
        go_simp
        refine hK.out _ _ ?_
        clear hK K
        try simp only [Act.put, List.setIfInBounds_toArray, List.set_cons_zero, List.set_cons_succ]
        refine wpAny_done (by kernel_rfl) ?_ _
        have k1s := (k1d.below hbz k1d.lt).set_ 33 (.string (strB X))
        rw [com_set HC.out] at k1s
        have hBs := below_set (below_then hBd hbz) (p := ⟨C, 33, none⟩) hgC (.string (strB X))
        go_wp2_with fail
        go_meet
        exact ⟨⟨c.who, c.hash, X⟩, round, 4, rfl, rfl, HC, hwho, h2, hXl, i64_small (by decide) (by decide), k1s, hBs⟩
      · have hu0' : ¬ (0 : Int) < (u.size : Int) := by omega
        go_wp2_with fail
        go_meet
        exact ⟨c, round, 4, rfl, rfl, HC, hwho, h2, Nat.le_trans hboxl (by decide), i64_small (by decide) (by decide), k1, hB⟩
    · skip
      obtain ⟨N, hN, hN3⟩ : ∃ N : Nat, q1 % 103 = (N : Int) ∧ N < 103 := ⟨(q1 % 103).toNat, by omega, by omega⟩
      have mj : Hid (Ret 54 #[.int .i64 q1, .int .i64 103] (.int .i64 (N : Int))) := Lib.hid (hN ▸ Mod_q q1 103 (by omega) (by omega))
      obtain ⟨u, hu⟩ : ∃ u, u = strB c.box := ⟨_, rfl⟩
      have hul : u.size ≤ 100 := by rw [hu, strB_size]; exact hboxl
      obtain ⟨bl, hbl⟩ : ∃ bl : List UInt8, bl = List.replicate N 0 := ⟨_, rfl⟩
      obtain ⟨cz, hmk, hcv⟩ : ∃ cz : Array Value, (∀ W : World, (Instr.makeSlice 22 (.int .i64 (N : Int)) (.int .i64 (N : Int))).run Tryz.prog W = .ok (.slice (some ⟨W.heap.size, 0, none⟩) N N) (W.alloc (.cells cz 5))) ∧
          ∀ W : World, (convert 22 9 (.slice (some ⟨W.heap.size, 0, none⟩) N N)).run Tryz.prog (W.alloc (.cells cz 5)) = .ok (.string (strB bl)) (W.alloc (.cells cz 5)) := by
        refine ⟨u8s (List.replicate N 0), fun W => make_u8 N (by omega) W, fun W => ?_⟩
        rw [hbl]
        exact run_bdg_str (bdg_zero N W)
      obtain ⟨v, hv, hvl⟩ : ∃ v, v = strB bl ∧ v.size = N := ⟨_, rfl, by rw [strB_size, hbl, List.length_replicate]⟩
      obtain ⟨X, hX, hXl⟩ : ∃ X : List UInt8, u ++ v = strB X ∧ X.length ≤ 1000 := ⟨(u ++ v).data.toList, (bytes_eq (strB_list _)).symm, by rw [size_len, ByteArray.size_append]; omega⟩
      rw [← hv] at hcv
      have z1 : ¬ 9223372036854775807 < u.size + v.size := by omega
      have hd33 : wx.cell? ⟨C, 33, none⟩ = some (.string u) := by rw [hu]; exact (k1.cell 33).trans (com_box HC.out)
      clear hN hbl hv hvl mm hu
      go_upto_region 14 with fail
      have hBd := hB.drew
      have k1d : Blk _ C 73 (comA c) := k1.below (Below.refl _ _).drew k1.lt
      refine region_here (fun Z : World => Z.cell? ⟨C, 33, none⟩ = some (.string u) ∧ Z.cell? ⟨BA + 1, 1, none⟩ = some (.int .i64 q1)) 9 (by kernel_rfl) ⟨hd33, q1c⟩ (fun hHeld => ?_)
      refine wpAnyS_take [1, 7, 8, 9] (i := 0) (oi := ⟨_, _, _, _, _, _⟩) (v := ?_) (by simp) (by kernel_rfl) rfl (by kernel_rfl) (by kernel_rfl) (by kernel_rfl) (fun _ _ _ h => h) (Or.inl ⟨by rfl, ?_⟩) (by assumption) ?_
      rotate_left
      · (intro w hSw; (try dsimp only at hSw); go_simp; try with_reducible rfl)
      try simp only [Act.put, List.setIfInBounds_toArray, List.set_cons_zero, List.set_cons_succ]
      refine wpAnyS_take [7, 8, 9] (i := 1) (oi := ⟨_, _, _, _, _, _⟩) (v := ?_) (by simp) (by kernel_rfl) rfl (by kernel_rfl) (by kernel_rfl) (by kernel_rfl) (fun _ _ _ h => h) (Or.inl ⟨by rfl, ?_⟩) (by assumption) ?_
      rotate_left
      · (intro w hSw; (try dsimp only at hSw); go_simp; try with_reducible rfl)
      try simp only [Act.put, List.setIfInBounds_toArray, List.set_cons_zero, List.set_cons_succ]
      refine wpAnyS_take [3, 4, 5, 6, 7, 8, 9] (i := 2) (oi := ⟨_, _, _, _, _, _⟩) (v := ?_) (by simp) (by kernel_rfl) rfl (by kernel_rfl) (by kernel_rfl) (by kernel_rfl) (fun _ _ _ h => h) (Or.inl ⟨by rfl, ?_⟩) (by assumption) ?_
      rotate_left
      · (intro w hSw; (try dsimp only at hSw); go_simp; try with_reducible rfl)
      try simp only [Act.put, List.setIfInBounds_toArray, List.set_cons_zero, List.set_cons_succ]
      refine wpAnyS_take [4, 5, 6, 7, 8, 9] (i := 3) (oi := ⟨_, _, _, _, _, _⟩) (v := ?_) (by simp) (by kernel_rfl) rfl (by kernel_rfl) (by kernel_rfl) (by kernel_rfl) (fun _ _ _ h => h) (Or.inl ⟨by rfl, ?_⟩) (by assumption) ?_
      rotate_left
      · (intro w hSw; (try dsimp only at hSw); go_simp; try with_reducible rfl)
      try simp only [Act.put, List.setIfInBounds_toArray, List.set_cons_zero, List.set_cons_succ]
      refine wpAnyS_one (i := 4) (oi := ⟨_, _, _, _, _, _⟩) rfl (by kernel_rfl) (fun K hK => ?_)
      go_simp
      go_at_call 54
      (with_reducible refine (mj.out _).mono ?_)
      rintro e wa ⟨rfl, hba⟩
      (try go_wp2_with fail)
      refine hK.out _ _ ?_ (fun hHeld4 => ?_)
      · exact ⟨cell_b hba hHeld.1, cell_b hba hHeld.2⟩
      clear hK K
      try simp only [Act.put, List.setIfInBounds_toArray, List.set_cons_zero, List.set_cons_succ]
      refine wpAnyS_one (i := 5) (oi := ⟨_, _, _, _, _, _⟩) rfl (by kernel_rfl) (fun K hK => ?_)
      have hbz := below_al (Below.refl wa.heap.size wa) (.cells cz 5)
      go_simp
      refine hK.out _ _ ?_ (fun hHeld5 => ?_)
      · exact ⟨cell_b (below_al (Below.refl _ _) _) hHeld4.1, cell_b (below_al (Below.refl _ _) _) hHeld4.2⟩
      clear hK K
      try simp only [Act.put, List.setIfInBounds_toArray, List.set_cons_zero, List.set_cons_succ]
      refine wpAnyS_one (i := 6) (oi := ⟨_, _, _, _, _, _⟩) rfl (by kernel_rfl) (fun K hK => ?_)
      go_simp
      refine hK.out _ _ ?_ (fun hHeld6 => ?_)
      · exact hHeld5
      clear hK K
      try simp only [Act.put, List.setIfInBounds_toArray, List.set_cons_zero, List.set_cons_succ]
      refine wpAnyS_take [8, 9] (i := 7) (oi := ⟨_, _, _, _, _, _⟩) (v := ?_) (by simp) (by kernel_rfl) rfl (by kernel_rfl) (by kernel_rfl) (by kernel_rfl) (fun _ _ _ h => h) (Or.inl ⟨by rfl, ?_⟩) (by assumption) ?_
      rotate_left
      · (intro w hSw; (try dsimp only at hSw); go_simp; try with_reducible rfl)
      try simp only [Act.put, List.setIfInBounds_toArray, List.set_cons_zero, List.set_cons_succ]
      refine wpAnyS_take [9] (i := 8) (oi := ⟨_, _, _, _, _, _⟩) (v := ?_) (by simp) (by kernel_rfl) rfl (by kernel_rfl) (by kernel_rfl) (by kernel_rfl) (fun _ _ _ h => h) (Or.inl ⟨by rfl, ?_⟩) (by assumption) ?_
      rotate_left
      · (intro w hSw; (try dsimp only at hSw); go_simp; try with_reducible rfl)
      try simp only [Act.put, List.setIfInBounds_toArray, List.set_cons_zero, List.set_cons_succ]
      refine wpAnyS_call (k := 9) (ok := ⟨_, _, _, _, _, _⟩) rfl (by kernel_rfl) (by kernel_rfl) (fun K hK => ?_)
      have f33 := ((k1d.below hba k1d.lt).below hbz (k1d.below hba k1d.lt).lt).frozen 33
      have c33 := ((k1d.below hba k1d.lt).below hbz (k1d.below hba k1d.lt).lt).cell 33
      rw [com_box HC.out] at c33
      go_simp
      refine hK.out _ _ ?_
      clear hK K
      try simp only [Act.put, List.setIfInBounds_toArray, List.set_cons_zero, List.set_cons_succ]
      refine wpAny_done (by kernel_rfl) ?_ _
      have k1s := ((k1d.below hba k1d.lt).below hbz (k1d.below hba k1d.lt).lt).set_ 33 (.string (strB X))
      rw [com_set HC.out] at k1s
      have hBs := below_set (below_then (below_then hBd hba) hbz) (p := ⟨C, 33, none⟩) hgC (.string (strB X))
      go_wp2_with fail
      go_meet
      exact ⟨⟨c.who, c.hash, X⟩, round, 4, rfl, rfl, HC, hwho, h2, hXl, i64_small (by decide) (by decide), k1s, hBs⟩
    · have c0 : wx.cell? ⟨C, 0, none⟩ = some (.int .i64 c.who) := (k1.cell 0).trans (com_who c)
      have f0 := k1.frozen 0
      go_wp2_with fail
      have k1s := k1.set_ 0 (.int .i64 (wrap64 (c.who + q1)))
      rw [com_set0] at k1s
      have hBs := below_set hB (p := ⟨C, 0, none⟩) hgC (.int .i64 (wrap64 (c.who + q1)))
      go_meet
      exact ⟨⟨wrap64 (c.who + q1), c.hash, c.box⟩, round, 4, rfl, rfl, HC, wrap64_bd _, h2, Nat.le_trans hboxl (by decide), i64_small (by decide) (by decide), k1s, hBs⟩
    · go_wp2_with fail
      go_meet
      exact ⟨c, wrap64 (round + q1), 4, rfl, rfl, HC, hwho, wrap64_bd _, Nat.le_trans hboxl (by decide), i64_small (by decide) (by decide), k1, hB⟩
    · obtain ⟨n5, hn5, hn0, hn9⟩ : ∃ n5 : Int, n5 = q1 % 9 ∧ 0 ≤ n5 ∧ n5 < 9 := ⟨_, rfl, by omega, by omega⟩
      have m5 : Hid (Ret 54 #[.int .i64 q1, .int .i64 9] (.int .i64 n5)) := Lib.hid (hn5 ▸ Mod_q q1 9 (by omega) (by omega))
      clear hn5
      go_wp2_with (go_at_call 54; (with_reducible refine (m5.out _).mono ?_); rintro e wu ⟨rfl, hb⟩; replace k1 := k1.below hb k1.lt; replace hB := below_then hB hb; clear hb)
      go_meet
      exact ⟨c, round, n5 - 1, rfl, rfl, HC, hwho, h2, Nat.le_trans hboxl (by decide), ⟨by omega, by omega⟩, k1, hB⟩
    · go_wp2_with fail
      go_meet
      exact ⟨c, round, 4, rfl, rfl, HC, hwho, h2, Nat.le_trans hboxl (by decide), i64_small (by decide) (by decide), k1, hB⟩
  clear kA kB k1 hB zB HC M1 hwho hboxl mm
  obtain ⟨D, r, sq, rfl, rfl, HD, hDw, hDr, hDb, hsq, k1, hB⟩ := hcut
  obtain ⟨st, b, m1, m2, m3⟩ := recover_both D r sq HD.out hDw hDr hDb
  have O1 := Lib.hid (Opens_q D r t HD.out hDw hDr (by omega))
  have O2 := Lib.hid (rOpens_q D r t HD.out hDw hDr (by omega))
  generalize opensR D r t.data.toList = ob at O1 O2
  have R1 := Lib.hid m1
  have R2 := Lib.hid m2
  have hq := txt_same st
  clear m1 m2
  go_upto_region 23 with (first
    | (refine wpList_load_row rfl 73 _ rfl C rfl _ (comA D) (0, 0) _ k1 Tryz.underlying73 rfl (by rw [comA_size (c := D) HD.out]; exact com_size) ?_)
    | (go_at_call 52; (with_reducible refine (R1.out _ ?_).mono ?_); exact HT.out.below hB; rintro e wz ⟨rfl, hb⟩; replace k1 := k1.below hb k1.lt; replace hB := below_then hB hb; clear hb)
    | (go_at_call 55; (with_reducible refine (R2.out _).mono ?_); rintro e wz ⟨rfl, hb⟩; replace k1 := k1.below hb k1.lt; replace hB := below_then hB hb; clear hb))
  cases b with
  | true =>
    have O3 := Lib.hid (m3 rfl)
    clear m3
    have hBd := hB.drew
    have k1d : Blk _ C 73 (comA D) := k1.below (Below.refl _ _).drew k1.lt
    refine region_here (fun Z : World => Blk Z C 73 (comA D)) 31 (by kernel_rfl) k1d (fun hHeld => ?_)
    refine wpAnyS_take [1, 2, 3, 4, 5, 6, 7, 8, 9, 10, 11, 12, 13, 14, 15, 16, 17, 18, 19, 20, 21, 22, 23, 24, 25, 26, 27, 28, 29, 30, 31, 32] (i := 0) (oi := ⟨_, _, _, _, _, _⟩) (v := ?_) (by simp) (by kernel_rfl) rfl (by kernel_rfl) (by kernel_rfl) (by kernel_rfl) (fun _ _ _ h => h) (Or.inl ⟨by rfl, ?_⟩) (by assumption) ?_
    rotate_left
    · (intro w hSw; (try dsimp only at hSw); go_simp; try with_reducible rfl)
    try simp only [Act.put, List.setIfInBounds_toArray, List.set_cons_zero, List.set_cons_succ]
    refine wpAnyS_take [2, 3, 4, 5, 6, 7, 8, 9, 10, 11, 12, 13, 14, 15, 16, 17, 18, 19, 20, 21, 22, 23, 24, 25, 26, 27, 28, 29, 30, 31, 32] (i := 1) (oi := ⟨_, _, _, _, _, _⟩) (v := ?_) (by simp) (by kernel_rfl) rfl (by kernel_rfl) (by kernel_rfl) (by kernel_rfl) (fun _ _ _ h => h) (Or.inl ⟨by rfl, ?_⟩) (by assumption) ?_
    rotate_left
    · (intro w hSw; (try dsimp only at hSw); go_simp; try with_reducible rfl)
    try simp only [Act.put, List.setIfInBounds_toArray, List.set_cons_zero, List.set_cons_succ]
    refine wpAnyS_take [4, 5, 6, 7, 8, 9, 10, 11, 12, 13, 14, 15, 16, 17, 18, 19, 20, 21, 22, 23, 24, 25, 26, 27, 28, 29, 30, 31, 32] (i := 2) (oi := ⟨_, _, _, _, _, _⟩) (v := ?_) (by simp) (by kernel_rfl) rfl (by kernel_rfl) (by kernel_rfl) (by kernel_rfl) (fun _ _ _ h => h) (Or.inl ⟨by rfl, ?_⟩) (by assumption) ?_
    rotate_left
    · (intro w hSw; (try dsimp only at hSw); go_simp; try with_reducible rfl)
    try simp only [Act.put, List.setIfInBounds_toArray, List.set_cons_zero, List.set_cons_succ]
    refine wpAnyS_take [4, 5, 6, 7, 8, 9, 10, 11, 12, 13, 14, 15, 16, 17, 18, 19, 20, 21, 22, 23, 24, 25, 26, 27, 28, 29, 30, 31, 32] (i := 3) (oi := ⟨_, _, _, _, _, _⟩) (v := ?_) (by simp) (by kernel_rfl) rfl (by kernel_rfl) (by kernel_rfl) (by kernel_rfl) (fun _ _ _ h => h) (Or.inl ⟨by rfl, ?_⟩) (by assumption) ?_
    rotate_left
    · (intro w hSw; (try dsimp only at hSw); go_simp; try with_reducible rfl)
    try simp only [Act.put, List.setIfInBounds_toArray, List.set_cons_zero, List.set_cons_succ]
    refine wpAnyS_take [5, 6, 7, 8, 9, 10, 11, 12, 13, 14, 15, 16, 17, 18, 19, 20, 21, 22, 23, 24, 25, 26, 27, 28, 29, 30, 31, 32] (i := 4) (oi := ⟨_, _, _, _, _, _⟩) (v := ?_) (by simp) (by kernel_rfl) rfl (by kernel_rfl) (by kernel_rfl) (by kernel_rfl) (fun _ _ _ h => h) (Or.inl ⟨by rfl, ?_⟩) (by assumption) ?_
    rotate_left
    · (intro w hSw; (try dsimp only at hSw); go_simp; try with_reducible rfl)
    try simp only [Act.put, List.setIfInBounds_toArray, List.set_cons_zero, List.set_cons_succ]
    refine wpAnyS_take [6, 7, 8, 9, 10, 11, 12, 13, 14, 15, 16, 17, 18, 19, 20, 21, 22, 23, 24, 25, 26, 27, 28, 29, 30, 31, 32] (i := 5) (oi := ⟨_, _, _, _, _, _⟩) (v := ?_) (by simp) (by kernel_rfl) rfl (by kernel_rfl) (by kernel_rfl) (by kernel_rfl) (fun _ _ _ h => h) (Or.inl ⟨by rfl, ?_⟩) (by assumption) ?_
    rotate_left
    · (intro w hSw; (try dsimp only at hSw); go_simp; try with_reducible rfl)
    try simp only [Act.put, List.setIfInBounds_toArray, List.set_cons_zero, List.set_cons_succ]
    refine wpAnyS_take [7, 8, 9, 10, 11, 12, 13, 14, 15, 16, 17, 18, 19, 20, 21, 22, 23, 24, 25, 26, 27, 28, 29, 30, 31, 32] (i := 6) (oi := ⟨_, _, _, _, _, _⟩) (v := ?_) (by simp) (by kernel_rfl) rfl (by kernel_rfl) (by kernel_rfl) (by kernel_rfl) (fun _ _ _ h => h) (Or.inl ⟨by rfl, ?_⟩) (by assumption) ?_
    rotate_left
    · (intro w hSw; (try dsimp only at hSw); go_simp; try with_reducible rfl)
    try simp only [Act.put, List.setIfInBounds_toArray, List.set_cons_zero, List.set_cons_succ]
    refine wpAnyS_take [9, 10, 11, 12, 13, 14, 15, 16, 17, 18, 19, 20, 21, 22, 23, 24, 25, 26, 27, 28, 29, 30, 31, 32] (i := 7) (oi := ⟨_, _, _, _, _, _⟩) (v := ?_) (by simp) (by kernel_rfl) rfl (by kernel_rfl) (by kernel_rfl) (by kernel_rfl) (fun _ _ _ h => h) (Or.inl ⟨by rfl, ?_⟩) (by assumption) ?_
    rotate_left
    · (intro w hSw; (try dsimp only at hSw); go_simp; try with_reducible rfl)
    try simp only [Act.put, List.setIfInBounds_toArray, List.set_cons_zero, List.set_cons_succ]
    refine wpAnyS_take [9, 10, 11, 12, 13, 14, 15, 16, 17, 18, 19, 20, 21, 22, 23, 24, 25, 26, 27, 28, 29, 30, 31, 32] (i := 8) (oi := ⟨_, _, _, _, _, _⟩) (v := ?_) (by simp) (by kernel_rfl) rfl (by kernel_rfl) (by kernel_rfl) (by kernel_rfl) (fun _ _ _ h => h) (Or.inl ⟨by rfl, ?_⟩) (by assumption) ?_
    rotate_left
    · (intro w hSw; (try dsimp only at hSw); go_simp; try with_reducible rfl)
    try simp only [Act.put, List.setIfInBounds_toArray, List.set_cons_zero, List.set_cons_succ]
    refine wpAnyS_take [10, 11, 12, 13, 14, 15, 16, 17, 18, 19, 20, 21, 22, 23, 24, 25, 26, 27, 28, 29, 30, 31, 32] (i := 9) (oi := ⟨_, _, _, _, _, _⟩) (v := ?_) (by simp) (by kernel_rfl) rfl (by kernel_rfl) (by kernel_rfl) (by kernel_rfl) (fun _ _ _ h => h) (Or.inl ⟨by rfl, ?_⟩) (by assumption) ?_
    rotate_left
    · (intro w hSw; (try dsimp only at hSw); go_simp; try with_reducible rfl)
    try simp only [Act.put, List.setIfInBounds_toArray, List.set_cons_zero, List.set_cons_succ]
    refine wpAnyS_take [11, 12, 13, 14, 15, 16, 17, 18, 19, 20, 21, 22, 23, 24, 25, 26, 27, 28, 29, 30, 31, 32] (i := 10) (oi := ⟨_, _, _, _, _, _⟩) (v := ?_) (by simp) (by kernel_rfl) rfl (by kernel_rfl) (by kernel_rfl) (by kernel_rfl) (fun _ _ _ h => h) (Or.inl ⟨by rfl, ?_⟩) (by assumption) ?_
    rotate_left
    · (intro w hSw; (try dsimp only at hSw); go_simp; try with_reducible rfl)
    try simp only [Act.put, List.setIfInBounds_toArray, List.set_cons_zero, List.set_cons_succ]
    refine wpAnyS_take [12, 13, 14, 15, 16, 17, 18, 19, 20, 21, 22, 23, 24, 25, 26, 27, 28, 29, 30, 31, 32] (i := 11) (oi := ⟨_, _, _, _, _, _⟩) (v := ?_) (by simp) (by kernel_rfl) rfl (by kernel_rfl) (by kernel_rfl) (by kernel_rfl) (fun _ _ _ h => h) (Or.inl ⟨by rfl, ?_⟩) (by assumption) ?_
    rotate_left
    · (intro w hSw; (try dsimp only at hSw); go_simp; try with_reducible rfl)
    try simp only [Act.put, List.setIfInBounds_toArray, List.set_cons_zero, List.set_cons_succ]
    refine wpAnyS_take [15, 19, 20, 21, 22, 23, 24, 25, 26, 27, 28, 29, 30, 31, 32] (i := 12) (oi := ⟨_, _, _, _, _, _⟩) (v := .agg (comA D)) (by simp) (by kernel_rfl) rfl (by kernel_rfl) (by kernel_rfl) (by kernel_rfl) (fun _ _ _ h => h) (yieldsIf_load_mid (by rfl) 73 (.tmp 8) rfl C 0 rfl (comCells D) _ (fun Z hZ => com_rangeAll hZ) Tryz.underlying73 rfl (by rw [comCells_len HD.out]; exact com_size)) (by assumption) ?_
    try simp only [Act.put, List.setIfInBounds_toArray, List.set_cons_zero, List.set_cons_succ]
    refine wpAnyS_take [15, 19, 20, 21, 22, 23, 24, 25, 26, 27, 28, 29, 30, 31, 32] (i := 13) (oi := ⟨_, _, _, _, _, _⟩) (v := ?_) (by simp) (by kernel_rfl) rfl (by kernel_rfl) (by kernel_rfl) (by kernel_rfl) (fun _ _ _ h => h) (Or.inl ⟨by rfl, ?_⟩) (by assumption) ?_
    rotate_left
    · (intro w hSw; (try dsimp only at hSw); go_simp; try with_reducible rfl)
    try simp only [Act.put, List.setIfInBounds_toArray, List.set_cons_zero, List.set_cons_succ]
    refine wpAnyS_take [15, 19, 20, 21, 22, 23, 24, 25, 26, 27, 28, 29, 30, 31, 32] (i := 14) (oi := ⟨_, _, _, _, _, _⟩) (v := ?_) (by simp) (by kernel_rfl) rfl (by kernel_rfl) (by kernel_rfl) (by kernel_rfl) (fun _ _ _ h => h) (Or.inl ⟨by rfl, ?_⟩) (by assumption) ?_
    rotate_left
    · (intro w hSw; (try dsimp only at hSw); go_simp; try with_reducible rfl)
    try simp only [Act.put, List.setIfInBounds_toArray, List.set_cons_zero, List.set_cons_succ]
    refine wpAnyS_take [19, 20, 21, 22, 23, 24, 25, 26, 27, 28, 29, 30, 31, 32] (i := 16) (oi := ⟨_, _, _, _, _, _⟩) (v := .agg (comA D)) (by simp) (by kernel_rfl) rfl (by kernel_rfl) (by kernel_rfl) (by kernel_rfl) (fun _ _ _ h => h) (yieldsIf_load_mid (by rfl) 73 (.tmp 8) rfl C 0 rfl (comCells D) _ (fun Z hZ => com_rangeAll hZ) Tryz.underlying73 rfl (by rw [comCells_len HD.out]; exact com_size)) (by assumption) ?_
    try simp only [Act.put, List.setIfInBounds_toArray, List.set_cons_zero, List.set_cons_succ]
    refine wpAnyS_take [19, 20, 21, 22, 23, 24, 25, 26, 27, 28, 29, 30, 31, 32] (i := 17) (oi := ⟨_, _, _, _, _, _⟩) (v := ?_) (by simp) (by kernel_rfl) rfl (by kernel_rfl) (by kernel_rfl) (by kernel_rfl) (fun _ _ _ h => h) (Or.inl ⟨by rfl, ?_⟩) (by assumption) ?_
    rotate_left
    · (intro w hSw; (try dsimp only at hSw); go_simp; try with_reducible rfl)
    try simp only [Act.put, List.setIfInBounds_toArray, List.set_cons_zero, List.set_cons_succ]
    refine wpAnyS_take [19, 20, 21, 22, 23, 24, 25, 26, 27, 28, 29, 30, 31, 32] (i := 18) (oi := ⟨_, _, _, _, _, _⟩) (v := ?_) (by simp) (by kernel_rfl) rfl (by kernel_rfl) (by kernel_rfl) (by kernel_rfl) (fun _ _ _ h => h) (Or.inl ⟨by rfl, ?_⟩) (by assumption) ?_
    rotate_left
    · (intro w hSw; (try dsimp only at hSw); go_simp; try with_reducible rfl)
    try simp only [Act.put, List.setIfInBounds_toArray, List.set_cons_zero, List.set_cons_succ]
    refine wpAnyS_one (i := 15) (oi := ⟨_, _, _, _, _, _⟩) rfl (by kernel_rfl) (fun K hK => ?_)
    go_simp
    go_at_call 53
    (with_reducible refine (O1.out _ ?_).mono ?_)
    · exact HT.out.below hBd
    rintro e wa ⟨rfl, hba⟩
    (try go_wp2_with fail)
    refine hK.out _ _ ?_ (fun hHeld15 => ?_)
    · exact hHeld.below hba hHeld.lt
    clear hK K
    try simp only [Act.put, List.setIfInBounds_toArray, List.set_cons_zero, List.set_cons_succ]
    refine wpAnyS_one (i := 19) (oi := ⟨_, _, _, _, _, _⟩) rfl (by kernel_rfl) (fun K hK => ?_)
    go_simp
    go_at_call 56
    (with_reducible refine (O2.out _).mono ?_)
    rintro e wb ⟨rfl, hbb⟩
    (try go_wp2_with fail)
    refine hK.out _ _ ?_ (fun hHeld19 => ?_)
    · exact hHeld15.below hbb hHeld15.lt
    clear hK K
    try simp only [Act.put, List.setIfInBounds_toArray, List.set_cons_zero, List.set_cons_succ]
    refine wpAnyS_take [21, 22, 23, 24, 25, 26, 27, 28, 29, 30, 31, 32] (i := 20) (oi := ⟨_, _, _, _, _, _⟩) (v := ?_) (by simp) (by kernel_rfl) rfl (by kernel_rfl) (by kernel_rfl) (by kernel_rfl) (fun _ _ _ h => h) (Or.inl ⟨by rfl, ?_⟩) (by assumption) ?_
    rotate_left
    · (intro w hSw; (try dsimp only at hSw); go_simp; try with_reducible rfl)
    try simp only [Act.put, List.setIfInBounds_toArray, List.set_cons_zero, List.set_cons_succ]
    refine wpAnyS_take [22, 23, 24, 25, 26, 27, 28, 29, 30, 31, 32] (i := 21) (oi := ⟨_, _, _, _, _, _⟩) (v := ?_) (by simp) (by kernel_rfl) rfl (by kernel_rfl) (by kernel_rfl) (by kernel_rfl) (fun _ _ _ h => h) (Or.inl ⟨by rfl, ?_⟩) (by assumption) ?_
    rotate_left
    · (intro w hSw; (try dsimp only at hSw); go_simp; try with_reducible rfl)
    try simp only [Act.put, List.setIfInBounds_toArray, List.set_cons_zero, List.set_cons_succ]
    refine wpAnyS_take [23, 24, 25, 26, 27, 28, 29, 30, 31, 32] (i := 22) (oi := ⟨_, _, _, _, _, _⟩) (v := ?_) (by simp) (by kernel_rfl) rfl (by kernel_rfl) (by kernel_rfl) (by kernel_rfl) (fun _ _ _ h => h) (Or.inl ⟨by rfl, ?_⟩) (by assumption) ?_
    rotate_left
    · (intro w hSw; (try dsimp only at hSw); go_simp; try with_reducible rfl)
    try simp only [Act.put, List.setIfInBounds_toArray, List.set_cons_zero, List.set_cons_succ]
    refine wpAnyS_take [24, 25, 26, 27, 28, 29, 30, 31, 32] (i := 23) (oi := ⟨_, _, _, _, _, _⟩) (v := ?_) (by simp) (by kernel_rfl) rfl (by kernel_rfl) (by kernel_rfl) (by kernel_rfl) (fun _ _ _ h => h) (Or.inl ⟨by rfl, ?_⟩) (by assumption) ?_
    rotate_left
    · (intro w hSw; (try dsimp only at hSw); go_simp; try with_reducible rfl)
    try simp only [Act.put, List.setIfInBounds_toArray, List.set_cons_zero, List.set_cons_succ]
    refine wpAnyS_take [25, 26, 27, 28, 29, 30, 31, 32] (i := 24) (oi := ⟨_, _, _, _, _, _⟩) (v := ?_) (by simp) (by kernel_rfl) rfl (by kernel_rfl) (by kernel_rfl) (by kernel_rfl) (fun _ _ _ h => h) (Or.inl ⟨by rfl, ?_⟩) (by assumption) ?_
    rotate_left
    · (intro w hSw; (try dsimp only at hSw); go_simp; try with_reducible rfl)
    try simp only [Act.put, List.setIfInBounds_toArray, List.set_cons_zero, List.set_cons_succ]
    refine wpAnyS_take [26, 27, 28, 29, 30, 31, 32] (i := 25) (oi := ⟨_, _, _, _, _, _⟩) (v := ?_) (by simp) (by kernel_rfl) rfl (by kernel_rfl) (by kernel_rfl) (by kernel_rfl) (fun _ _ _ h => h) (Or.inl ⟨by rfl, ?_⟩) (by assumption) ?_
    rotate_left
    · (intro w hSw; (try dsimp only at hSw); go_simp; try with_reducible rfl)
    try simp only [Act.put, List.setIfInBounds_toArray, List.set_cons_zero, List.set_cons_succ]
    refine wpAnyS_take [29, 30, 31, 32] (i := 26) (oi := ⟨_, _, _, _, _, _⟩) (v := .agg (comA D)) (by simp) (by kernel_rfl) rfl (by kernel_rfl) (by kernel_rfl) (by kernel_rfl) (fun _ _ _ h => h) (yieldsIf_load_mid (by rfl) 73 (.tmp 8) rfl C 0 rfl (comCells D) _ (fun Z hZ => com_rangeAll hZ) Tryz.underlying73 rfl (by rw [comCells_len HD.out]; exact com_size)) (by assumption) ?_
    try simp only [Act.put, List.setIfInBounds_toArray, List.set_cons_zero, List.set_cons_succ]
    refine wpAnyS_take [29, 30, 31, 32] (i := 27) (oi := ⟨_, _, _, _, _, _⟩) (v := ?_) (by simp) (by kernel_rfl) rfl (by kernel_rfl) (by kernel_rfl) (by kernel_rfl) (fun _ _ _ h => h) (Or.inl ⟨by rfl, ?_⟩) (by assumption) ?_
    rotate_left
    · (intro w hSw; (try dsimp only at hSw); go_simp; try with_reducible rfl)
    try simp only [Act.put, List.setIfInBounds_toArray, List.set_cons_zero, List.set_cons_succ]
    refine wpAnyS_take [29, 30, 31, 32] (i := 28) (oi := ⟨_, _, _, _, _, _⟩) (v := ?_) (by simp) (by kernel_rfl) rfl (by kernel_rfl) (by kernel_rfl) (by kernel_rfl) (fun _ _ _ h => h) (Or.inl ⟨by rfl, ?_⟩) (by assumption) ?_
    rotate_left
    · (intro w hSw; (try dsimp only at hSw); go_simp; try with_reducible rfl)
    try simp only [Act.put, List.setIfInBounds_toArray, List.set_cons_zero, List.set_cons_succ]
    refine wpAnyS_one (i := 29) (oi := ⟨_, _, _, _, _, _⟩) rfl (by kernel_rfl) (fun K hK => ?_)
    go_simp
    go_at_call 53
    (with_reducible refine (O3.out _ ?_).mono ?_)
    · exact HT.out.below (below_then (below_then hBd hba) hbb)
    rintro e wd ⟨rfl, hbd⟩
    (try go_wp2_with fail)
    refine hK.out _ _ ?_ (fun hHeld29 => ?_)
    · exact hHeld19.below hbd hHeld19.lt
    clear hK K
    try simp only [Act.put, List.setIfInBounds_toArray, List.set_cons_zero, List.set_cons_succ]
    refine wpAnyS_take [31, 32] (i := 30) (oi := ⟨_, _, _, _, _, _⟩) (v := ?_) (by simp) (by kernel_rfl) rfl (by kernel_rfl) (by kernel_rfl) (by kernel_rfl) (fun _ _ _ h => h) (Or.inl ⟨by rfl, ?_⟩) (by assumption) ?_
    rotate_left
    · (intro w hSw; (try dsimp only at hSw); go_simp; try with_reducible rfl)
    try simp only [Act.put, List.setIfInBounds_toArray, List.set_cons_zero, List.set_cons_succ]
    refine wpAnyS_call (k := 31) (ok := ⟨_, _, _, _, _, _⟩) rfl (by kernel_rfl) (by kernel_rfl) (fun K hK => ?_)
    go_simp
    refine hK.out _ _ ?_
    clear hK K
    try simp only [Act.put, List.setIfInBounds_toArray, List.set_cons_zero, List.set_cons_succ]
    refine wpAny_take (i := 32) (oi := ⟨_, _, _, _, _, _⟩) (v := ?_) rfl (by kernel_rfl) (by kernel_rfl) (by kernel_rfl) (fun _ _ _ h => h) (Or.inl ⟨by rfl, ?_⟩) ?_
    rotate_left
    · (intro w; go_simp; try with_reducible rfl)
    try simp only [Act.put, List.setIfInBounds_toArray, List.set_cons_zero, List.set_cons_succ]
    refine wpAny_done (by kernel_rfl) ?_ _
    have hBz := below_then (below_then (below_then hBd hba) hbb) hbd
    go_wp2_with fail
    go_ret
    exact ⟨by simp, hBz⟩
  | false =>
    clear m3
    have hBd := hB.drew
    have k1d : Blk _ C 73 (comA D) := k1.below (Below.refl _ _).drew k1.lt
    refine region_here (fun Z : World => Blk Z C 73 (comA D)) 31 (by kernel_rfl) k1d (fun hHeld => ?_)
    refine wpAnyS_take [1, 2, 3, 4, 5, 6, 7, 8, 9, 10, 11, 12, 13, 14, 15, 16, 17, 18, 19, 20, 21, 22, 23, 24, 25, 26, 27, 28, 29, 30, 31, 32] (i := 0) (oi := ⟨_, _, _, _, _, _⟩) (v := ?_) (by simp) (by kernel_rfl) rfl (by kernel_rfl) (by kernel_rfl) (by kernel_rfl) (fun _ _ _ h => h) (Or.inl ⟨by rfl, ?_⟩) (by assumption) ?_
    rotate_left
    · (intro w hSw; (try dsimp only at hSw); go_simp; try with_reducible rfl)
    try simp only [Act.put, List.setIfInBounds_toArray, List.set_cons_zero, List.set_cons_succ]
    refine wpAnyS_take [2, 3, 4, 5, 6, 7, 8, 9, 10, 11, 12, 13, 14, 15, 16, 17, 18, 19, 20, 21, 22, 23, 24, 25, 26, 27, 28, 29, 30, 31, 32] (i := 1) (oi := ⟨_, _, _, _, _, _⟩) (v := ?_) (by simp) (by kernel_rfl) rfl (by kernel_rfl) (by kernel_rfl) (by kernel_rfl) (fun _ _ _ h => h) (Or.inl ⟨by rfl, ?_⟩) (by assumption) ?_
    rotate_left
    · (intro w hSw; (try dsimp only at hSw); go_simp; try with_reducible rfl)
    try simp only [Act.put, List.setIfInBounds_toArray, List.set_cons_zero, List.set_cons_succ]
    refine wpAnyS_take [4, 5, 6, 7, 8, 9, 10, 11, 12, 13, 14, 15, 16, 17, 18, 19, 20, 21, 22, 23, 24, 25, 26, 27, 28, 29, 30, 31, 32] (i := 2) (oi := ⟨_, _, _, _, _, _⟩) (v := ?_) (by simp) (by kernel_rfl) rfl (by kernel_rfl) (by kernel_rfl) (by kernel_rfl) (fun _ _ _ h => h) (Or.inl ⟨by rfl, ?_⟩) (by assumption) ?_
    rotate_left
    · (intro w hSw; (try dsimp only at hSw); go_simp; try with_reducible rfl)
    try simp only [Act.put, List.setIfInBounds_toArray, List.set_cons_zero, List.set_cons_succ]
    refine wpAnyS_take [4, 5, 6, 7, 8, 9, 10, 11, 12, 13, 14, 15, 16, 17, 18, 19, 20, 21, 22, 23, 24, 25, 26, 27, 28, 29, 30, 31, 32] (i := 3) (oi := ⟨_, _, _, _, _, _⟩) (v := ?_) (by simp) (by kernel_rfl) rfl (by kernel_rfl) (by kernel_rfl) (by kernel_rfl) (fun _ _ _ h => h) (Or.inl ⟨by rfl, ?_⟩) (by assumption) ?_
    rotate_left
    · (intro w hSw; (try dsimp only at hSw); go_simp; try with_reducible rfl)
    try simp only [Act.put, List.setIfInBounds_toArray, List.set_cons_zero, List.set_cons_succ]
    refine wpAnyS_take [5, 6, 7, 8, 9, 10, 11, 12, 13, 14, 15, 16, 17, 18, 19, 20, 21, 22, 23, 24, 25, 26, 27, 28, 29, 30, 31, 32] (i := 4) (oi := ⟨_, _, _, _, _, _⟩) (v := ?_) (by simp) (by kernel_rfl) rfl (by kernel_rfl) (by kernel_rfl) (by kernel_rfl) (fun _ _ _ h => h) (Or.inl ⟨by rfl, ?_⟩) (by assumption) ?_
    rotate_left
    · (intro w hSw; (try dsimp only at hSw); go_simp; try with_reducible rfl)
    try simp only [Act.put, List.setIfInBounds_toArray, List.set_cons_zero, List.set_cons_succ]
    refine wpAnyS_take [6, 7, 8, 9, 10, 11, 12, 13, 14, 15, 16, 17, 18, 19, 20, 21, 22, 23, 24, 25, 26, 27, 28, 29, 30, 31, 32] (i := 5) (oi := ⟨_, _, _, _, _, _⟩) (v := ?_) (by simp) (by kernel_rfl) rfl (by kernel_rfl) (by kernel_rfl) (by kernel_rfl) (fun _ _ _ h => h) (Or.inl ⟨by rfl, ?_⟩) (by assumption) ?_
    rotate_left
    · (intro w hSw; (try dsimp only at hSw); go_simp; try with_reducible rfl)
    try simp only [Act.put, List.setIfInBounds_toArray, List.set_cons_zero, List.set_cons_succ]
    refine wpAnyS_take [7, 8, 9, 10, 11, 12, 13, 14, 15, 16, 17, 18, 19, 20, 21, 22, 23, 24, 25, 26, 27, 28, 29, 30, 31, 32] (i := 6) (oi := ⟨_, _, _, _, _, _⟩) (v := ?_) (by simp) (by kernel_rfl) rfl (by kernel_rfl) (by kernel_rfl) (by kernel_rfl) (fun _ _ _ h => h) (Or.inl ⟨by rfl, ?_⟩) (by assumption) ?_
    rotate_left
    · (intro w hSw; (try dsimp only at hSw); go_simp; try with_reducible rfl)
    try simp only [Act.put, List.setIfInBounds_toArray, List.set_cons_zero, List.set_cons_succ]
    refine wpAnyS_take [9, 10, 11, 12, 13, 14, 15, 16, 17, 18, 19, 20, 21, 22, 23, 24, 25, 26, 27, 28, 29, 30, 31, 32] (i := 7) (oi := ⟨_, _, _, _, _, _⟩) (v := ?_) (by simp) (by kernel_rfl) rfl (by kernel_rfl) (by kernel_rfl) (by kernel_rfl) (fun _ _ _ h => h) (Or.inl ⟨by rfl, ?_⟩) (by assumption) ?_
    rotate_left
    · (intro w hSw; (try dsimp only at hSw); go_simp; try with_reducible rfl)
    try simp only [Act.put, List.setIfInBounds_toArray, List.set_cons_zero, List.set_cons_succ]
    refine wpAnyS_take [9, 10, 11, 12, 13, 14, 15, 16, 17, 18, 19, 20, 21, 22, 23, 24, 25, 26, 27, 28, 29, 30, 31, 32] (i := 8) (oi := ⟨_, _, _, _, _, _⟩) (v := ?_) (by simp) (by kernel_rfl) rfl (by kernel_rfl) (by kernel_rfl) (by kernel_rfl) (fun _ _ _ h => h) (Or.inl ⟨by rfl, ?_⟩) (by assumption) ?_
    rotate_left
    · (intro w hSw; (try dsimp only at hSw); go_simp; try with_reducible rfl)
    try simp only [Act.put, List.setIfInBounds_toArray, List.set_cons_zero, List.set_cons_succ]
    refine wpAnyS_take [10, 11, 12, 13, 14, 15, 16, 17, 18, 19, 20, 21, 22, 23, 24, 25, 26, 27, 28, 29, 30, 31, 32] (i := 9) (oi := ⟨_, _, _, _, _, _⟩) (v := ?_) (by simp) (by kernel_rfl) rfl (by kernel_rfl) (by kernel_rfl) (by kernel_rfl) (fun _ _ _ h => h) (Or.inl ⟨by rfl, ?_⟩) (by assumption) ?_
    rotate_left
    · (intro w hSw; (try dsimp only at hSw); go_simp; try with_reducible rfl)
    try simp only [Act.put, List.setIfInBounds_toArray, List.set_cons_zero, List.set_cons_succ]
    refine wpAnyS_take [11, 12, 13, 14, 15, 16, 17, 18, 19, 20, 21, 22, 23, 24, 25, 26, 27, 28, 29, 30, 31, 32] (i := 10) (oi := ⟨_, _, _, _, _, _⟩) (v := ?_) (by simp) (by kernel_rfl) rfl (by kernel_rfl) (by kernel_rfl) (by kernel_rfl) (fun _ _ _ h => h) (Or.inl ⟨by rfl, ?_⟩) (by assumption) ?_
    rotate_left
    · (intro w hSw; (try dsimp only at hSw); go_simp; try with_reducible rfl)
    try simp only [Act.put, List.setIfInBounds_toArray, List.set_cons_zero, List.set_cons_succ]
    refine wpAnyS_take [12, 13, 14, 15, 16, 17, 18, 19, 20, 21, 22, 23, 24, 25, 26, 27, 28, 29, 30, 31, 32] (i := 11) (oi := ⟨_, _, _, _, _, _⟩) (v := ?_) (by simp) (by kernel_rfl) rfl (by kernel_rfl) (by kernel_rfl) (by kernel_rfl) (fun _ _ _ h => h) (Or.inl ⟨by rfl, ?_⟩) (by assumption) ?_
    rotate_left
    · (intro w hSw; (try dsimp only at hSw); go_simp; try with_reducible rfl)
    try simp only [Act.put, List.setIfInBounds_toArray, List.set_cons_zero, List.set_cons_succ]
    refine wpAnyS_take [15, 19, 20, 21, 22, 23, 24, 25, 26, 27, 28, 29, 30, 31, 32] (i := 12) (oi := ⟨_, _, _, _, _, _⟩) (v := .agg (comA D)) (by simp) (by kernel_rfl) rfl (by kernel_rfl) (by kernel_rfl) (by kernel_rfl) (fun _ _ _ h => h) (yieldsIf_load_mid (by rfl) 73 (.tmp 8) rfl C 0 rfl (comCells D) _ (fun Z hZ => com_rangeAll hZ) Tryz.underlying73 rfl (by rw [comCells_len HD.out]; exact com_size)) (by assumption) ?_
    try simp only [Act.put, List.setIfInBounds_toArray, List.set_cons_zero, List.set_cons_succ]
    refine wpAnyS_take [15, 19, 20, 21, 22, 23, 24, 25, 26, 27, 28, 29, 30, 31, 32] (i := 13) (oi := ⟨_, _, _, _, _, _⟩) (v := ?_) (by simp) (by kernel_rfl) rfl (by kernel_rfl) (by kernel_rfl) (by kernel_rfl) (fun _ _ _ h => h) (Or.inl ⟨by rfl, ?_⟩) (by assumption) ?_
    rotate_left
    · (intro w hSw; (try dsimp only at hSw); go_simp; try with_reducible rfl)
    try simp only [Act.put, List.setIfInBounds_toArray, List.set_cons_zero, List.set_cons_succ]
    refine wpAnyS_take [15, 19, 20, 21, 22, 23, 24, 25, 26, 27, 28, 29, 30, 31, 32] (i := 14) (oi := ⟨_, _, _, _, _, _⟩) (v := ?_) (by simp) (by kernel_rfl) rfl (by kernel_rfl) (by kernel_rfl) (by kernel_rfl) (fun _ _ _ h => h) (Or.inl ⟨by rfl, ?_⟩) (by assumption) ?_
    rotate_left
    · (intro w hSw; (try dsimp only at hSw); go_simp; try with_reducible rfl)
    try simp only [Act.put, List.setIfInBounds_toArray, List.set_cons_zero, List.set_cons_succ]
    refine wpAnyS_take [19, 20, 21, 22, 23, 24, 25, 26, 27, 28, 29, 30, 31, 32] (i := 16) (oi := ⟨_, _, _, _, _, _⟩) (v := .agg (comA D)) (by simp) (by kernel_rfl) rfl (by kernel_rfl) (by kernel_rfl) (by kernel_rfl) (fun _ _ _ h => h) (yieldsIf_load_mid (by rfl) 73 (.tmp 8) rfl C 0 rfl (comCells D) _ (fun Z hZ => com_rangeAll hZ) Tryz.underlying73 rfl (by rw [comCells_len HD.out]; exact com_size)) (by assumption) ?_
    try simp only [Act.put, List.setIfInBounds_toArray, List.set_cons_zero, List.set_cons_succ]
    refine wpAnyS_take [19, 20, 21, 22, 23, 24, 25, 26, 27, 28, 29, 30, 31, 32] (i := 17) (oi := ⟨_, _, _, _, _, _⟩) (v := ?_) (by simp) (by kernel_rfl) rfl (by kernel_rfl) (by kernel_rfl) (by kernel_rfl) (fun _ _ _ h => h) (Or.inl ⟨by rfl, ?_⟩) (by assumption) ?_
    rotate_left
    · (intro w hSw; (try dsimp only at hSw); go_simp; try with_reducible rfl)
    try simp only [Act.put, List.setIfInBounds_toArray, List.set_cons_zero, List.set_cons_succ]
    refine wpAnyS_take [19, 20, 21, 22, 23, 24, 25, 26, 27, 28, 29, 30, 31, 32] (i := 18) (oi := ⟨_, _, _, _, _, _⟩) (v := ?_) (by simp) (by kernel_rfl) rfl (by kernel_rfl) (by kernel_rfl) (by kernel_rfl) (fun _ _ _ h => h) (Or.inl ⟨by rfl, ?_⟩) (by assumption) ?_
    rotate_left
    · (intro w hSw; (try dsimp only at hSw); go_simp; try with_reducible rfl)
    try simp only [Act.put, List.setIfInBounds_toArray, List.set_cons_zero, List.set_cons_succ]
    refine wpAnyS_one (i := 15) (oi := ⟨_, _, _, _, _, _⟩) rfl (by kernel_rfl) (fun K hK => ?_)
    go_simp
    go_at_call 53
    (with_reducible refine (O1.out _ ?_).mono ?_)
    · exact HT.out.below hBd
    rintro e wa ⟨rfl, hba⟩
    (try go_wp2_with fail)
    refine hK.out _ _ ?_ (fun hHeld15 => ?_)
    · exact hHeld.below hba hHeld.lt
    clear hK K
    try simp only [Act.put, List.setIfInBounds_toArray, List.set_cons_zero, List.set_cons_succ]
    refine wpAnyS_one (i := 19) (oi := ⟨_, _, _, _, _, _⟩) rfl (by kernel_rfl) (fun K hK => ?_)
    go_simp
    go_at_call 56
    (with_reducible refine (O2.out _).mono ?_)
    rintro e wb ⟨rfl, hbb⟩
    (try go_wp2_with fail)
    refine hK.out _ _ ?_ (fun hHeld19 => ?_)
    · exact hHeld15.below hbb hHeld15.lt
    clear hK K
    try simp only [Act.put, List.setIfInBounds_toArray, List.set_cons_zero, List.set_cons_succ]
    refine wpAnyS_take [21, 22, 23, 24, 25, 26, 27, 28, 29, 30, 31, 32] (i := 20) (oi := ⟨_, _, _, _, _, _⟩) (v := ?_) (by simp) (by kernel_rfl) rfl (by kernel_rfl) (by kernel_rfl) (by kernel_rfl) (fun _ _ _ h => h) (Or.inl ⟨by rfl, ?_⟩) (by assumption) ?_
    rotate_left
    · (intro w hSw; (try dsimp only at hSw); go_simp; try with_reducible rfl)
    try simp only [Act.put, List.setIfInBounds_toArray, List.set_cons_zero, List.set_cons_succ]
    refine wpAnyS_take [22, 23, 24, 25, 26, 27, 28, 29, 30, 31, 32] (i := 21) (oi := ⟨_, _, _, _, _, _⟩) (v := ?_) (by simp) (by kernel_rfl) rfl (by kernel_rfl) (by kernel_rfl) (by kernel_rfl) (fun _ _ _ h => h) (Or.inl ⟨by rfl, ?_⟩) (by assumption) ?_
    rotate_left
    · (intro w hSw; (try dsimp only at hSw); go_simp; try with_reducible rfl)
    try simp only [Act.put, List.setIfInBounds_toArray, List.set_cons_zero, List.set_cons_succ]
    refine wpAnyS_take [23, 24, 25, 26, 27, 28, 29, 30, 31, 32] (i := 22) (oi := ⟨_, _, _, _, _, _⟩) (v := ?_) (by simp) (by kernel_rfl) rfl (by kernel_rfl) (by kernel_rfl) (by kernel_rfl) (fun _ _ _ h => h) (Or.inl ⟨by rfl, ?_⟩) (by assumption) ?_
    rotate_left
    · (intro w hSw; (try dsimp only at hSw); go_simp; try with_reducible rfl)
    try simp only [Act.put, List.setIfInBounds_toArray, List.set_cons_zero, List.set_cons_succ]
    refine wpAnyS_take [24, 25, 26, 27, 28, 29, 30, 31, 32] (i := 23) (oi := ⟨_, _, _, _, _, _⟩) (v := ?_) (by simp) (by kernel_rfl) rfl (by kernel_rfl) (by kernel_rfl) (by kernel_rfl) (fun _ _ _ h => h) (Or.inl ⟨by rfl, ?_⟩) (by assumption) ?_
    rotate_left
    · (intro w hSw; (try dsimp only at hSw); go_simp; try with_reducible rfl)
    try simp only [Act.put, List.setIfInBounds_toArray, List.set_cons_zero, List.set_cons_succ]
    refine wpAnyS_take [25, 26, 27, 28, 29, 30, 31, 32] (i := 24) (oi := ⟨_, _, _, _, _, _⟩) (v := ?_) (by simp) (by kernel_rfl) rfl (by kernel_rfl) (by kernel_rfl) (by kernel_rfl) (fun _ _ _ h => h) (Or.inl ⟨by rfl, ?_⟩) (by assumption) ?_
    rotate_left
    · (intro w hSw; (try dsimp only at hSw); go_simp; try with_reducible rfl)
    try simp only [Act.put, List.setIfInBounds_toArray, List.set_cons_zero, List.set_cons_succ]
    refine wpAnyS_take [26, 27, 28, 29, 30, 31, 32] (i := 25) (oi := ⟨_, _, _, _, _, _⟩) (v := ?_) (by simp) (by kernel_rfl) rfl (by kernel_rfl) (by kernel_rfl) (by kernel_rfl) (fun _ _ _ h => h) (Or.inl ⟨by rfl, ?_⟩) (by assumption) ?_
    rotate_left
    · (intro w hSw; (try dsimp only at hSw); go_simp; try with_reducible rfl)
    try simp only [Act.put, List.setIfInBounds_toArray, List.set_cons_zero, List.set_cons_succ]
    refine wpAnyS_take [29, 30, 31, 32] (i := 26) (oi := ⟨_, _, _, _, _, _⟩) (v := undef) (by simp) (by kernel_rfl) rfl (by kernel_rfl) (by kernel_rfl) (by kernel_rfl) (fun _ _ _ h => h) (Or.inr ⟨by rfl, rfl⟩) (by assumption) ?_
    try simp only [Act.put, List.setIfInBounds_toArray, List.set_cons_zero, List.set_cons_succ]
    refine wpAnyS_take [29, 30, 31, 32] (i := 27) (oi := ⟨_, _, _, _, _, _⟩) (v := undef) (by simp) (by kernel_rfl) rfl (by kernel_rfl) (by kernel_rfl) (by kernel_rfl) (fun _ _ _ h => h) (Or.inr ⟨by rfl, rfl⟩) (by assumption) ?_
    try simp only [Act.put, List.setIfInBounds_toArray, List.set_cons_zero, List.set_cons_succ]
    refine wpAnyS_take [29, 30, 31, 32] (i := 28) (oi := ⟨_, _, _, _, _, _⟩) (v := undef) (by simp) (by kernel_rfl) rfl (by kernel_rfl) (by kernel_rfl) (by kernel_rfl) (fun _ _ _ h => h) (Or.inr ⟨by rfl, rfl⟩) (by assumption) ?_
    try simp only [Act.put, List.setIfInBounds_toArray, List.set_cons_zero, List.set_cons_succ]
    refine wpAnyS_take [30, 31, 32] (i := 29) (oi := ⟨_, _, _, _, _, _⟩) (v := undef) (by simp) (by kernel_rfl) rfl (by kernel_rfl) (by kernel_rfl) (by kernel_rfl) (fun _ _ _ h => h) (Or.inr ⟨by rfl, rfl⟩) (by assumption) ?_
    try simp only [Act.put, List.setIfInBounds_toArray, List.set_cons_zero, List.set_cons_succ]
    refine wpAnyS_take [31, 32] (i := 30) (oi := ⟨_, _, _, _, _, _⟩) (v := ?_) (by simp) (by kernel_rfl) rfl (by kernel_rfl) (by kernel_rfl) (by kernel_rfl) (fun _ _ _ h => h) (Or.inl ⟨by rfl, ?_⟩) (by assumption) ?_
    rotate_left
    · (intro w hSw; (try dsimp only at hSw); go_simp; try with_reducible rfl)
    try simp only [Act.put, List.setIfInBounds_toArray, List.set_cons_zero, List.set_cons_succ]
    refine wpAnyS_call (k := 31) (ok := ⟨_, _, _, _, _, _⟩) rfl (by kernel_rfl) (by kernel_rfl) (fun K hK => ?_)
    go_simp
    refine hK.out _ _ ?_
    clear hK K
    try simp only [Act.put, List.setIfInBounds_toArray, List.set_cons_zero, List.set_cons_succ]
    refine wpAny_take (i := 32) (oi := ⟨_, _, _, _, _, _⟩) (v := ?_) rfl (by kernel_rfl) (by kernel_rfl) (by kernel_rfl) (fun _ _ _ h => h) (Or.inl ⟨by rfl, ?_⟩) ?_
    rotate_left
    · (intro w; go_simp; try with_reducible rfl)
    try simp only [Act.put, List.setIfInBounds_toArray, List.set_cons_zero, List.set_cons_succ]
    refine wpAny_done (by kernel_rfl) ?_ _
    have hBz := below_then (below_then hBd hba) hbb
    go_wp2_with fail
    go_ret
    exact ⟨by simp, hBz⟩
end Go.Proofs.YtebgmlbbilcbbaaGreatDoor
