/- Locks: Recover, hex and Text of both. -/
import Derived.Test.YtebgmlbbilcbbaaGreatDoorLockH
namespace Go.Proofs.YtebgmlbbilcbbaaGreatDoor
open Go.RowKit
attribute [local go_sem] Oper.semAt_some

/-- What Recover returns where it looks into the box. -/
def recoverV (c : Com) (round : Int) (sq : Nat) : Value :=
  if opensR c round (boxed c.who round c.hash sq c.box) = true then .tuple #[.string (strB (boxed c.who round c.hash sq c.box)), .bool true] else .tuple #[.string ⟨#[]⟩, .bool false]

set_option maxRecDepth 100000 in
set_option maxHeartbeats 2000000 in
theorem Recover_no (c : Com) (round : Int) (sq : Int) (hc : c.hash.length = 32) (hs : c.box.length ≤ 9223372036854775807) (h : okSq c.box.length sq = false) :
    Ret 52 #[.agg (comA c), .int .i64 round, .int .i64 sq] (.tuple #[.string ⟨#[]⟩, .bool false]) := by
  intro w
  have hbs : (strB c.box).size = c.box.length := strB_size _
  have hd : (100 < (strB c.box).size ∨ sq < 1) ∨ 1048576 < sq := by
    unfold okSq at h
    have := of_decide_eq_false h
    omega
  clear h
  rcases hd with (hd | hd) | hd
  · have h1 : (100 : Int) < ((strB c.box).size : Int) := by omega
    clear hd
    go_enter Tryz.func52, Tryz.ntmps52
    go_upto_region 1 with fail
    refine nameOne (comA c) rfl ?_
    intro w0 k0 hB
    obtain ⟨B, hBe⟩ : ∃ B, B = w.heap.size := ⟨_, rfl⟩
    rw [← hBe] at k0 ⊢
    clear hBe
    have c33 : w0.cell? ⟨B, 33, none⟩ = some (.string (strB c.box)) := (k0.cell 33).trans (com_box hc)
    go_wp2_with fail
    go_ret2
    exact ⟨rfl, hB⟩
  · by_cases h1 : 100 < (strB c.box).size
    · have h1' : (100 : Int) < ((strB c.box).size : Int) := by omega
      clear h1
      go_enter Tryz.func52, Tryz.ntmps52
      go_upto_region 1 with fail
      refine nameOne (comA c) rfl ?_
      intro w0 k0 hB
      obtain ⟨B, hBe⟩ : ∃ B, B = w.heap.size := ⟨_, rfl⟩
      rw [← hBe] at k0 ⊢
      clear hBe
      have c33 : w0.cell? ⟨B, 33, none⟩ = some (.string (strB c.box)) := (k0.cell 33).trans (com_box hc)
      go_wp2_with fail
      go_ret2
      exact ⟨rfl, hB⟩
    · have h1' : ¬ (100 : Int) < ((strB c.box).size : Int) := by omega
      clear h1
      go_enter Tryz.func52, Tryz.ntmps52
      go_upto_region 1 with fail
      refine nameOne (comA c) rfl ?_
      intro w0 k0 hB
      obtain ⟨B, hBe⟩ : ∃ B, B = w.heap.size := ⟨_, rfl⟩
      rw [← hBe] at k0 ⊢
      clear hBe
      have c33 : w0.cell? ⟨B, 33, none⟩ = some (.string (strB c.box)) := (k0.cell 33).trans (com_box hc)
      go_wp2_with fail
      go_ret2
      exact ⟨rfl, hB⟩
  · have h2 : ¬ sq < 1 := by omega
    by_cases h1 : 100 < (strB c.box).size
    · have h1' : (100 : Int) < ((strB c.box).size : Int) := by omega
      clear h1
      go_enter Tryz.func52, Tryz.ntmps52
      go_upto_region 1 with fail
      refine nameOne (comA c) rfl ?_
      intro w0 k0 hB
      obtain ⟨B, hBe⟩ : ∃ B, B = w.heap.size := ⟨_, rfl⟩
      rw [← hBe] at k0 ⊢
      clear hBe
      have c33 : w0.cell? ⟨B, 33, none⟩ = some (.string (strB c.box)) := (k0.cell 33).trans (com_box hc)
      go_wp2_with fail
      go_ret2
      exact ⟨rfl, hB⟩
    · have h1' : ¬ (100 : Int) < ((strB c.box).size : Int) := by omega
      clear h1
      go_enter Tryz.func52, Tryz.ntmps52
      go_upto_region 1 with fail
      refine nameOne (comA c) rfl ?_
      intro w0 k0 hB
      obtain ⟨B, hBe⟩ : ∃ B, B = w.heap.size := ⟨_, rfl⟩
      rw [← hBe] at k0 ⊢
      clear hBe
      have c33 : w0.cell? ⟨B, 33, none⟩ = some (.string (strB c.box)) := (k0.cell 33).trans (com_box hc)
      go_wp2_with fail
      go_ret2
      exact ⟨rfl, hB⟩

set_option maxRecDepth 100000 in
set_option maxHeartbeats 2000000 in
theorem rRecover_no (c : Com) (round : Int) (sq : Int) (hc : c.hash.length = 32) (_hs : c.box.length ≤ 9223372036854775807) (h : okSq c.box.length sq = false) :
    Ret 55 #[.agg (comA c), .int .i64 round, .int .i64 sq] (.tuple #[.string ⟨#[]⟩, .bool false]) := by
  intro w
  have hbs : (strB c.box).size = c.box.length := strB_size _
  have m1 := Lib.hid (right_q (strB c.box).size sq)
  rw [hbs, h] at m1
  rw [← hbs] at m1
  clear h
  go_enter Tryz.func55, Tryz.ntmps55
  go_upto_region 1 with fail
  refine nameOne (comA c) rfl ?_
  intro w0 k0 hB
  obtain ⟨B, hBe⟩ : ∃ B, B = w.heap.size := ⟨_, rfl⟩
  rw [← hBe] at k0 ⊢
  clear hBe
  have c33 : w0.cell? ⟨B, 33, none⟩ = some (.string (strB c.box)) := (k0.cell 33).trans (com_box hc)
  go_wp2_with fail
  refine (m1.out _).mono ?_
  rintro e w1 ⟨rfl, hb⟩
  replace hB := below_then hB hb
  go_wp2_with fail
  go_ret2
  exact ⟨rfl, hB⟩

set_option maxRecDepth 100000 in
set_option maxHeartbeats 4000000 in
theorem Recover_yes (c : Com) (round : Int) (sq : Nat) (hc : c.hash.length = 32) (h1 : I64 c.who) (h2 : I64 round) (hs : c.box.length ≤ 100) (h3 : 1 ≤ sq) (h4 : sq ≤ 1048576) :
    RetT 52 #[.agg (comA c), .int .i64 round, .int .i64 (sq : Int)] (recoverV c round sq) := by
  intro w hT
  have HT := Lib.hid hT
  clear hT
  have hbs : (strB c.box).size = c.box.length := strB_size _
  have m2 := Lib.hid (pad_q c round sq (strB c.box).size hc h1 h2 h4 (by omega))
  obtain ⟨pd, hpd⟩ : ∃ pd, pd = padL c.who round c.hash sq (strB c.box).size := ⟨_, rfl⟩
  have hpl : (strB pd).size = (strB c.box).size := by rw [strB_size, hpd, pad_len]
  have m3 := Lib.hid (combine_q (strB c.box) (strB pd) hpl (by omega))
  obtain ⟨bx, hbx⟩ : ∃ bx, bx = boxed c.who round c.hash sq c.box := ⟨_, rfl⟩
  have hb2 : combL (strB c.box).data.toList (strB pd).data.toList = bx := by
    rw [hbx, strB_list, strB_list, hpd, hbs]; rfl
  rw [hb2] at m3
  rw [← hpd] at m2
  have hbl : bx.length ≤ 100 := by rw [hbx, boxed_len]; exact hs
  have m4 := Lib.hid (Opens_q c round (strB bx) hc h1 h2 (by rw [strB_size]; omega))
  rw [strB_list] at m4
  obtain ⟨ok, hok⟩ : ∃ ok, ok = opensR c round bx := ⟨_, rfl⟩
  have hV : recoverV c round sq = if ok = true then .tuple #[.string (strB bx), .bool true] else .tuple #[.string ⟨#[]⟩, .bool false] := by unfold recoverV; rw [← hbx, ← hok]
  rw [← hok] at m4
  rw [hV]
  have hsz1 : ¬ (100 : Int) < ((strB c.box).size : Int) := by omega
  have hsq1 : ¬ (sq : Int) < 1 := by omega
  have hsq2 : ¬ (1048576 : Int) < (sq : Int) := by omega
  have HC := Lib.hid hc
  clear hV hok hbx hb2 hpd hpl hbs hc
  go_enter Tryz.func52, Tryz.ntmps52
  go_upto_region 1 with fail
  refine nameOne (comA c) rfl ?_
  intro w0 k0 hB
  obtain ⟨B, hBe⟩ : ∃ B, B = w.heap.size := ⟨_, rfl⟩
  rw [← hBe] at k0 ⊢
  clear hBe
  have c33 : w0.cell? ⟨B, 33, none⟩ = some (.string (strB c.box)) := (k0.cell 33).trans (com_box HC.out)
  go_upto_region 3 with fail
  have hBd := hB.drew
  have k0d : Blk w0.drew B 73 (comA c) := k0
  clear c33
  refine region_here (fun Z : World => Z.cell? ⟨B, 0, none⟩ = some (.int .i64 c.who) ∧ Z.cell? ⟨B, 33, none⟩ = some (.string (strB c.box)) ∧ Blk Z B 73 (comA c)) 9 (by kernel_rfl) ⟨k0d.cell 0, (k0d.cell 33).trans (com_box HC.out), k0d⟩ (fun hHeld => ?_)
  refine wpAnyS_take [1, 9, 10] (i := 0) (oi := ⟨_, _, _, _, _, _⟩) (v := ?_) (by simp) (by kernel_rfl) rfl (by kernel_rfl) (by kernel_rfl) (by kernel_rfl) (fun _ _ _ h => h) (Or.inl ⟨by rfl, ?_⟩) (by assumption) ?_
  rotate_left
  · (intro w hSw; (try dsimp only at hSw); go_simp; try with_reducible rfl)
  try simp only [Act.put, List.setIfInBounds_toArray, List.set_cons_zero, List.set_cons_succ]
  refine wpAnyS_take [9, 10] (i := 1) (oi := ⟨_, _, _, _, _, _⟩) (v := ?_) (by simp) (by kernel_rfl) rfl (by kernel_rfl) (by kernel_rfl) (by kernel_rfl) (fun _ _ _ h => h) (Or.inl ⟨by rfl, ?_⟩) (by assumption) ?_
  rotate_left
  · (intro w hSw; (try dsimp only at hSw); go_simp; try with_reducible rfl)
  try simp only [Act.put, List.setIfInBounds_toArray, List.set_cons_zero, List.set_cons_succ]
  refine wpAnyS_take [8, 9, 10] (i := 2) (oi := ⟨_, _, _, _, _, _⟩) (v := .agg (comA c)) (by simp) (by kernel_rfl) rfl (by kernel_rfl) (by kernel_rfl) (by kernel_rfl) (fun _ _ _ h => h) (yieldsIf_load_mid rfl 73 (.tmp 3) rfl B 0 rfl (comCells c) _ (fun Z hZ => com_rangeAll hZ.2.2) Tryz.underlying73 rfl (by rw [comCells_len HC.out]; exact com_size)) (by assumption) ?_
  try simp only [Act.put, List.setIfInBounds_toArray, List.set_cons_zero, List.set_cons_succ]
  refine wpAnyS_take [8, 9, 10] (i := 3) (oi := ⟨_, _, _, _, _, _⟩) (v := ?_) (by simp) (by kernel_rfl) rfl (by kernel_rfl) (by kernel_rfl) (by kernel_rfl) (fun _ _ _ h => h) (Or.inl ⟨by rfl, ?_⟩) (by assumption) ?_
  rotate_left
  · (intro w hSw; (try dsimp only at hSw); go_simp; try with_reducible rfl)
  try simp only [Act.put, List.setIfInBounds_toArray, List.set_cons_zero, List.set_cons_succ]
  refine wpAnyS_take [8, 9, 10] (i := 4) (oi := ⟨_, _, _, _, _, _⟩) (v := ?_) (by simp) (by kernel_rfl) rfl (by kernel_rfl) (by kernel_rfl) (by kernel_rfl) (fun _ _ _ h => h) (Or.inl ⟨by rfl, ?_⟩) (by assumption) ?_
  rotate_left
  · (intro w hSw; (try dsimp only at hSw); go_simp; try with_reducible rfl)
  try simp only [Act.put, List.setIfInBounds_toArray, List.set_cons_zero, List.set_cons_succ]
  refine wpAnyS_take [6, 7, 8, 9, 10] (i := 5) (oi := ⟨_, _, _, _, _, _⟩) (v := ?_) (by simp) (by kernel_rfl) rfl (by kernel_rfl) (by kernel_rfl) (by kernel_rfl) (fun _ _ _ h => h) (Or.inl ⟨by rfl, ?_⟩) (by assumption) ?_
  rotate_left
  · (intro w hSw; (try dsimp only at hSw); go_simp; try with_reducible rfl)
  try simp only [Act.put, List.setIfInBounds_toArray, List.set_cons_zero, List.set_cons_succ]
  refine wpAnyS_take [7, 8, 9, 10] (i := 6) (oi := ⟨_, _, _, _, _, _⟩) (v := ?_) (by simp) (by kernel_rfl) rfl (by kernel_rfl) (by kernel_rfl) (by kernel_rfl) (fun _ _ _ h => h) (Or.inl ⟨by rfl, ?_⟩) (by assumption) ?_
  rotate_left
  · (intro w hSw; (try dsimp only at hSw); go_simp; try with_reducible rfl)
  try simp only [Act.put, List.setIfInBounds_toArray, List.set_cons_zero, List.set_cons_succ]
  refine wpAnyS_take [8, 9, 10] (i := 7) (oi := ⟨_, _, _, _, _, _⟩) (v := ?_) (by simp) (by kernel_rfl) rfl (by kernel_rfl) (by kernel_rfl) (by kernel_rfl) (fun _ _ _ h => h) (Or.inl ⟨by rfl, ?_⟩) (by assumption) ?_
  rotate_left
  · (intro w hSw; (try dsimp only at hSw); go_simp; try with_reducible rfl)
  try simp only [Act.put, List.setIfInBounds_toArray, List.set_cons_zero, List.set_cons_succ]
  refine wpAnyS_one (i := 8) (oi := ⟨_, _, _, _, _, _⟩) rfl (by kernel_rfl) (fun K hK => ?_)
  go_simp
  go_at_call 106
  (with_reducible refine (m2.out _ ?_).mono ?_)
  · exact HT.out.below hBd
  rintro e w1 ⟨rfl, hb1⟩
  (try go_wp2_with fail)
  refine hK.out _ _ ?_ (fun hHeld8 => ?_)
  · exact com_b hb1 hHeld
  clear hK K
  try simp only [Act.put, List.setIfInBounds_toArray, List.set_cons_zero, List.set_cons_succ]
  refine wpAnyS_call (k := 9) (ok := ⟨_, _, _, _, _, _⟩) rfl (by kernel_rfl) (by kernel_rfl) (fun K hK => ?_)
  go_simp
  go_at_call 105
  (with_reducible refine (m3.out _).mono ?_)
  rintro e w2 ⟨rfl, hb2⟩
  (try go_wp2_with fail)
  refine hK.out _ _ ?_
  clear hK K
  try simp only [Act.put, List.setIfInBounds_toArray, List.set_cons_zero, List.set_cons_succ]
  refine wpAny_take (i := 10) (oi := ⟨_, _, _, _, _, _⟩) (v := ?_) rfl (by kernel_rfl) (by kernel_rfl) (by kernel_rfl) (fun _ _ _ h => h) (Or.inl ⟨by rfl, ?_⟩) ?_
  rotate_left
  · (intro w; go_simp; try with_reducible rfl)
  try simp only [Act.put, List.setIfInBounds_toArray, List.set_cons_zero, List.set_cons_succ]
  refine wpAny_done (by kernel_rfl) ?_ _
  have hBz := below_then (below_then hBd hb1) hb2
  have kz := (k0d.below hb1 k0d.lt).below hb2 (k0d.below hb1 k0d.lt).lt
  go_wp2_with (refine wpList_load_row rfl 73 _ rfl B rfl _ (comA c) (0, 0) _ kz Tryz.underlying73 rfl (by rw [comA_size (c := c) HC.out]; exact com_size) ?_)
  refine (m4.out _ ?_).mono ?_
  · exact HT.out.below hBz
  rintro e w5 ⟨rfl, hb⟩
  replace hBz := below_then hBz hb
  cases ok
  · go_wp2_with fail
    go_ret2
    exact ⟨rfl, hBz⟩
  · go_wp2_with fail
    go_ret2
    exact ⟨rfl, hBz⟩

set_option maxRecDepth 100000 in
set_option maxHeartbeats 4000000 in
theorem rRecover_yes (c : Com) (round : Int) (sq : Nat) (hc : c.hash.length = 32) (h1 : I64 c.who) (h2 : I64 round) (hs : c.box.length ≤ 100) (h3 : 1 ≤ sq) (h4 : sq ≤ 1048576) :
    Ret 55 #[.agg (comA c), .int .i64 round, .int .i64 (sq : Int)] (recoverV c round sq) := by
  intro w
  have hbs : (strB c.box).size = c.box.length := strB_size _
  have m1 := Lib.hid (right_q (strB c.box).size (sq : Int))
  rw [show okSq (strB c.box).size (sq : Int) = true from decide_eq_true ⟨by omega, by omega, by omega⟩] at m1
  have m2 := Lib.hid (rpad_q c round sq (strB c.box).size hc h1 h2 h4 (by omega))
  obtain ⟨pd, hpd⟩ : ∃ pd, pd = padL c.who round c.hash sq (strB c.box).size := ⟨_, rfl⟩
  have hpl : (strB pd).size = (strB c.box).size := by rw [strB_size, hpd, pad_len]
  have m3 := Lib.hid (combined_q (strB c.box) (strB pd) hpl (by omega))
  obtain ⟨bx, hbx⟩ : ∃ bx, bx = boxed c.who round c.hash sq c.box := ⟨_, rfl⟩
  have hb2 : combL (strB c.box).data.toList (strB pd).data.toList = bx := by
    rw [hbx, strB_list, strB_list, hpd, hbs]; rfl
  rw [hb2] at m3
  rw [← hpd] at m2
  have hbl : bx.length ≤ 100 := by rw [hbx, boxed_len]; exact hs
  have m4 := Lib.hid (rOpens_q c round (strB bx) hc h1 h2 (by rw [strB_size]; omega))
  rw [strB_list] at m4
  obtain ⟨ok, hok⟩ : ∃ ok, ok = opensR c round bx := ⟨_, rfl⟩
  have hV : recoverV c round sq = if ok = true then .tuple #[.string (strB bx), .bool true] else .tuple #[.string ⟨#[]⟩, .bool false] := by unfold recoverV; rw [← hbx, ← hok]
  rw [← hok] at m4
  rw [hV]
  have hsz1 : ¬ (100 : Int) < ((strB c.box).size : Int) := by omega
  have hsq1 : ¬ (sq : Int) < 1 := by omega
  have hsq2 : ¬ (1048576 : Int) < (sq : Int) := by omega
  have HC := Lib.hid hc
  clear hV hok hbx hb2 hpd hpl hbs hc
  go_enter Tryz.func55, Tryz.ntmps55
  go_upto_region 1 with fail
  refine nameOne (comA c) rfl ?_
  intro w0 k0 hB
  obtain ⟨B, hBe⟩ : ∃ B, B = w.heap.size := ⟨_, rfl⟩
  rw [← hBe] at k0 ⊢
  clear hBe
  have c33 : w0.cell? ⟨B, 33, none⟩ = some (.string (strB c.box)) := (k0.cell 33).trans (com_box HC.out)
  go_wp2_with fail
  refine (m1.out _).mono ?_
  rintro e w1 ⟨rfl, hb⟩
  replace k0 := k0.below hb k0.lt
  replace hB := below_then hB hb
  clear hb c33
  have c33 : w1.cell? ⟨B, 33, none⟩ = some (.string (strB c.box)) := (k0.cell 33).trans (com_box HC.out)
  obtain ⟨w0, hw0⟩ : ∃ w0, w0 = w1 := ⟨_, rfl⟩
  subst hw0
  go_upto_region 3 with fail
  have hBd := hB.drew
  have k0d : Blk w0.drew B 73 (comA c) := k0
  clear c33
  refine region_here (fun Z : World => Z.cell? ⟨B, 0, none⟩ = some (.int .i64 c.who) ∧ Z.cell? ⟨B, 33, none⟩ = some (.string (strB c.box)) ∧ Blk Z B 73 (comA c)) 9 (by kernel_rfl) ⟨k0d.cell 0, (k0d.cell 33).trans (com_box HC.out), k0d⟩ (fun hHeld => ?_)
  refine wpAnyS_take [1, 9, 10] (i := 0) (oi := ⟨_, _, _, _, _, _⟩) (v := ?_) (by simp) (by kernel_rfl) rfl (by kernel_rfl) (by kernel_rfl) (by kernel_rfl) (fun _ _ _ h => h) (Or.inl ⟨by rfl, ?_⟩) (by assumption) ?_
  rotate_left
  · (intro w hSw; (try dsimp only at hSw); go_simp; try with_reducible rfl)
  try simp only [Act.put, List.setIfInBounds_toArray, List.set_cons_zero, List.set_cons_succ]
  refine wpAnyS_take [9, 10] (i := 1) (oi := ⟨_, _, _, _, _, _⟩) (v := ?_) (by simp) (by kernel_rfl) rfl (by kernel_rfl) (by kernel_rfl) (by kernel_rfl) (fun _ _ _ h => h) (Or.inl ⟨by rfl, ?_⟩) (by assumption) ?_
  rotate_left
  · (intro w hSw; (try dsimp only at hSw); go_simp; try with_reducible rfl)
  try simp only [Act.put, List.setIfInBounds_toArray, List.set_cons_zero, List.set_cons_succ]
  refine wpAnyS_take [8, 9, 10] (i := 2) (oi := ⟨_, _, _, _, _, _⟩) (v := .agg (comA c)) (by simp) (by kernel_rfl) rfl (by kernel_rfl) (by kernel_rfl) (by kernel_rfl) (fun _ _ _ h => h) (yieldsIf_load_mid rfl 73 (.tmp 3) rfl B 0 rfl (comCells c) _ (fun Z hZ => com_rangeAll hZ.2.2) Tryz.underlying73 rfl (by rw [comCells_len HC.out]; exact com_size)) (by assumption) ?_
  try simp only [Act.put, List.setIfInBounds_toArray, List.set_cons_zero, List.set_cons_succ]
  refine wpAnyS_take [8, 9, 10] (i := 3) (oi := ⟨_, _, _, _, _, _⟩) (v := ?_) (by simp) (by kernel_rfl) rfl (by kernel_rfl) (by kernel_rfl) (by kernel_rfl) (fun _ _ _ h => h) (Or.inl ⟨by rfl, ?_⟩) (by assumption) ?_
  rotate_left
  · (intro w hSw; (try dsimp only at hSw); go_simp; try with_reducible rfl)
  try simp only [Act.put, List.setIfInBounds_toArray, List.set_cons_zero, List.set_cons_succ]
  refine wpAnyS_take [8, 9, 10] (i := 4) (oi := ⟨_, _, _, _, _, _⟩) (v := ?_) (by simp) (by kernel_rfl) rfl (by kernel_rfl) (by kernel_rfl) (by kernel_rfl) (fun _ _ _ h => h) (Or.inl ⟨by rfl, ?_⟩) (by assumption) ?_
  rotate_left
  · (intro w hSw; (try dsimp only at hSw); go_simp; try with_reducible rfl)
  try simp only [Act.put, List.setIfInBounds_toArray, List.set_cons_zero, List.set_cons_succ]
  refine wpAnyS_take [6, 7, 8, 9, 10] (i := 5) (oi := ⟨_, _, _, _, _, _⟩) (v := ?_) (by simp) (by kernel_rfl) rfl (by kernel_rfl) (by kernel_rfl) (by kernel_rfl) (fun _ _ _ h => h) (Or.inl ⟨by rfl, ?_⟩) (by assumption) ?_
  rotate_left
  · (intro w hSw; (try dsimp only at hSw); go_simp; try with_reducible rfl)
  try simp only [Act.put, List.setIfInBounds_toArray, List.set_cons_zero, List.set_cons_succ]
  refine wpAnyS_take [7, 8, 9, 10] (i := 6) (oi := ⟨_, _, _, _, _, _⟩) (v := ?_) (by simp) (by kernel_rfl) rfl (by kernel_rfl) (by kernel_rfl) (by kernel_rfl) (fun _ _ _ h => h) (Or.inl ⟨by rfl, ?_⟩) (by assumption) ?_
  rotate_left
  · (intro w hSw; (try dsimp only at hSw); go_simp; try with_reducible rfl)
  try simp only [Act.put, List.setIfInBounds_toArray, List.set_cons_zero, List.set_cons_succ]
  refine wpAnyS_take [8, 9, 10] (i := 7) (oi := ⟨_, _, _, _, _, _⟩) (v := ?_) (by simp) (by kernel_rfl) rfl (by kernel_rfl) (by kernel_rfl) (by kernel_rfl) (fun _ _ _ h => h) (Or.inl ⟨by rfl, ?_⟩) (by assumption) ?_
  rotate_left
  · (intro w hSw; (try dsimp only at hSw); go_simp; try with_reducible rfl)
  try simp only [Act.put, List.setIfInBounds_toArray, List.set_cons_zero, List.set_cons_succ]
  refine wpAnyS_one (i := 8) (oi := ⟨_, _, _, _, _, _⟩) rfl (by kernel_rfl) (fun K hK => ?_)
  go_simp
  go_at_call 109
  (with_reducible refine (m2.out _).mono ?_)
  rintro e w1 ⟨rfl, hb1⟩
  (try go_wp2_with fail)
  refine hK.out _ _ ?_ (fun hHeld8 => ?_)
  · exact com_b hb1 hHeld
  clear hK K
  try simp only [Act.put, List.setIfInBounds_toArray, List.set_cons_zero, List.set_cons_succ]
  refine wpAnyS_call (k := 9) (ok := ⟨_, _, _, _, _, _⟩) rfl (by kernel_rfl) (by kernel_rfl) (fun K hK => ?_)
  go_simp
  go_at_call 108
  (with_reducible refine (m3.out _).mono ?_)
  rintro e w2 ⟨rfl, hb2⟩
  (try go_wp2_with fail)
  refine hK.out _ _ ?_
  clear hK K
  try simp only [Act.put, List.setIfInBounds_toArray, List.set_cons_zero, List.set_cons_succ]
  refine wpAny_take (i := 10) (oi := ⟨_, _, _, _, _, _⟩) (v := ?_) rfl (by kernel_rfl) (by kernel_rfl) (by kernel_rfl) (fun _ _ _ h => h) (Or.inl ⟨by rfl, ?_⟩) ?_
  rotate_left
  · (intro w; go_simp; try with_reducible rfl)
  try simp only [Act.put, List.setIfInBounds_toArray, List.set_cons_zero, List.set_cons_succ]
  refine wpAny_done (by kernel_rfl) ?_ _
  have hBz := below_then (below_then hBd hb1) hb2
  have kz := (k0d.below hb1 k0d.lt).below hb2 (k0d.below hb1 k0d.lt).lt
  go_wp2_with (refine wpList_load_row rfl 73 _ rfl B rfl _ (comA c) (0, 0) _ kz Tryz.underlying73 rfl (by rw [comA_size (c := c) HC.out]; exact com_size) ?_)
  refine (m4.out _).mono ?_
  rintro e w5 ⟨rfl, hb⟩
  replace hBz := below_then hBz hb
  cases ok
  · go_wp2_with fail
    go_ret2
    exact ⟨rfl, hBz⟩
  · go_wp2_with fail
    go_ret2
    exact ⟨rfl, hBz⟩

/-- A new block of bytes, with room, is a slice of the call's own. -/
theorem OwnB.fresh {w : World} {k B n : Nat} (h : Blk w k 5 (u8s (List.replicate n 0))) (hB : B ≤ k) (hn : n ≤ 1000000) : OwnB B w (.slice (some ⟨k, 0, none⟩) 0 n) [] :=
  ⟨by simp [u8l], .inr ⟨k, n, _, rfl, hB, h, Nat.zero_le _, by unfold maxLen; omega, by simp [u8s], by simp [u8l]⟩⟩

set_option maxRecDepth 100000 in
set_option maxHeartbeats 2000000 in
theorem hex_q (s : ByteArray) (hs : s.size ≤ 1000) : Ret 118 #[.string s] (.string (strB (hexL s.data.toList))) := by
  intro w
  obtain ⟨r, hr⟩ : ∃ r, r = hexL s.data.toList := ⟨_, rfl⟩
  have hrl : r.length = 2 * s.size := by rw [hr, hexL_len, size_len]
  have HRL := Lib.hid hrl
  have HR := Lib.hid hr
  rw [← hr]
  obtain ⟨m, hm, hm2⟩ : ∃ m : Nat, (2 : Int) * (s.size : Int) = (m : Int) ∧ m ≤ 2000 := ⟨2 * s.size, by omega, by omega⟩
  have hmk := make_u8c m (by omega)
  clear hr hrl
  go_enter Tryz.func118, Tryz.ntmps118
  go_upto_region 2 with fail
  refine name1p ?_
  intro w0 k0 hB
  clear hmk
  have ho := OwnB.fresh (B := w.heap.size) k0 (Nat.le_refl _) (by omega)
  clear k0
  go_wp2_with fail
  go_loopw [3, 11] (fun v s11 wr => ∃ (i : Nat), i ≤ s.size ∧ s11 = .int .i64 (i : Int) ∧ OwnB w.heap.size wr v (r.take (2 * i)) ∧ Below w.heap.size w wr) (fun _ s11 _ => s.size - (intOf s11).toNat)
  case atStart => exact ⟨0, by omega, rfl, ho, hB⟩
  case round =>
    obtain ⟨i, hi, rfl, hown, hb⟩ := hrel
    by_cases hlt : i < s.size
    · have hlt' : (i : Int) < (s.size : Int) := by omega
      have hbv := UInt8.toNat_lt s[i]
      obtain ⟨x, hx, hx16⟩ : ∃ x : Nat, x = s[i].toNat / 16 ∧ x < 16 := ⟨_, rfl, by omega⟩
      obtain ⟨y, hy, hy16⟩ : ∃ y : Nat, y = s[i].toNat % 16 ∧ y < 16 := ⟨_, rfl, by omega⟩
      have ex : (s[i].toNat : Int) / 16 = (x : Int) := by omega
      have ey : bits .and .u8 (s[i].toNat : Int) 15 = (y : Int) := by rw [u8_and15 _ hbv, hy]
      have h1 := run_hex hx16
      have h2 := run_hex hy16
      have HT2 : Hid (r.take (2 * (i + 1)) = r.take (2 * i) ++ [hexD x, hexD y]) := Lib.hid (by
        rw [HR.out, hx, hy, take_two (hex_get1 (byte_getL hlt)) (hex_get2 (byte_getL hlt)), List.append_assoc]; rfl)
      have hdl : (r.take (2 * i)).length ≤ 10000000 := by rw [List.length_take]; omega
      clear hx hy
      go_upto_region 5 with fail
      go_region_law (refine step_appendB rfl (.tmp 14) (.tmp 25) rfl [hexD x, hexD y] 2 rfl rfl (by simp [Act.eval]) (World.ownsRow.drew hown) (by simp [Act.eval]) hdl (by decide) hb.drew ?_; intro v1 w1 hown1 hbw1)
      all_goals go_wp2_with fail
      all_goals
        go_roundw
        case rel => exact ⟨i + 1, by omega, by go_num, by rw [HT2.out]; exact hown1, hbw1⟩
        case measure => simp [intOf]; omega
    · obtain rfl : i = s.size := by omega
      rw [List.take_of_length_le (by rw [HRL.out]; exact Nat.le_refl _)] at hown
      obtain ⟨A, c, rfl, hd⟩ := (own_same hown).bdg
      have hcv := run_bdg_str hd
      go_wp2_with fail
      go_ret
      exact ⟨rfl, hb⟩

set_option maxRecDepth 100000 in
set_option maxHeartbeats 2000000 in
theorem rHex_q (s : ByteArray) (hs : s.size ≤ 1000) : Ret 119 #[.string s] (.string (strB (hexL s.data.toList))) := by
  intro w
  obtain ⟨r, hr⟩ : ∃ r, r = hexL s.data.toList := ⟨_, rfl⟩
  have hrl : r.length = 2 * s.size := by rw [hr, hexL_len, size_len]
  have HRL := Lib.hid hrl
  have HR := Lib.hid hr
  rw [← hr]
  clear hr hrl
  go_enter Tryz.func119, Tryz.ntmps119
  go_wp2_with fail
  go_loopw [4, 5] (fun s4 s5 wr => ∃ i : Nat, i ≤ s.size ∧ s5 = .int .i64 (i : Int) ∧ s4 = .string (strB (r.take (2 * i))) ∧ Below w.heap.size w wr) (fun _ s5 _ => s.size - (intOf s5).toNat)
  case atStart => exact ⟨0, by omega, rfl, rfl, Below.refl _ _⟩
  case round =>
    obtain ⟨i, hi, rfl, rfl, hB⟩ := hrel
    by_cases hlt : i < s.size
    · have hlt' : (i : Int) < (s.size : Int) := by omega
      have hbv := UInt8.toNat_lt s[i]
      obtain ⟨x, hx, hx16⟩ : ∃ x : Nat, x = s[i].toNat / 16 ∧ x < 16 := ⟨_, rfl, by omega⟩
      obtain ⟨y, hy, hy16⟩ : ∃ y : Nat, y = s[i].toNat % 16 ∧ y < 16 := ⟨_, rfl, by omega⟩
      have ex : (s[i].toNat : Int) / 16 = (x : Int) := by omega
      have ex' : (s[i].toNat : Int).tdiv 16 = (x : Int) := by rw [Int.tdiv_eq_ediv_of_nonneg (by omega)]; omega
      have ey : (s[i].toNat : Int).tmod 16 = (y : Int) := by rw [Int.tmod_eq_emod_of_nonneg (by omega)]; omega
      have wx : IntKind.u8.wrap (x : Int) = (x : Int) := by rw [u8_wrap]; omega
      have wy : IntKind.u8.wrap (y : Int) = (y : Int) := by rw [u8_wrap]; omega
      have wx1 : IntKind.u8.wrap ((x : Int) + 1) = ((x + 1 : Nat) : Int) := by rw [u8_wrap]; omega
      have wy1 : IntKind.u8.wrap ((y : Int) + 1) = ((y + 1 : Nat) : Int) := by rw [u8_wrap]; omega
      have hx1 := hex_cut x hx16
      have hy1 := hex_cut y hy16
      have HT2 := Lib.hid (take_two (hex_get1 (byte_getL hlt)) (hex_get2 (byte_getL hlt)))
      rw [← hx, ← hy, ← HR.out] at HT2
      obtain ⟨u, hu⟩ : ∃ u, u = strB (r.take (2 * i)) := ⟨_, rfl⟩
      have hun : u.size ≤ 2000 := by rw [hu, strB_size, List.length_take]; omega
      obtain ⟨v, hv⟩ : ∃ v, v = u ++ (⟨#[hexD x]⟩ : ByteArray) := ⟨_, rfl⟩
      have hvn : v.size ≤ 2001 := by rw [hv, ByteArray.size_append]; show u.size + 1 ≤ 2001; omega
      have hr : v ++ (⟨#[hexD y]⟩ : ByteArray) = strB (r.take (2 * (i + 1))) := by rw [hv, hu, strB_snoc, strB_snoc, HT2.out]
      rw [← hu]
      have hcat := hv.symm
      obtain ⟨z, hz⟩ : ∃ z, z = strB (r.take (2 * (i + 1))) := ⟨_, rfl⟩
      have HZE := Lib.hid hz
      rw [← hz] at hr
      clear hz
      clear hx hy hu hv HT2
      go_upto_region 6 with fail
      go_region
      go_wp2_with fail
      go_roundw
      case rel => exact ⟨i + 1, by omega, by go_num, by rw [HZE.out], hB.drew⟩
      case measure => simp [intOf]; omega
    · obtain rfl : i = s.size := by omega
      rw [List.take_of_length_le (by rw [HRL.out]; exact Nat.le_refl _)]
      go_wp2_with fail
      go_ret
      exact ⟨rfl, hB⟩

/-- The text of a commitment, as it is put together. -/
def textB (d h b : ByteArray) : ByteArray := ((((⟨#[99, 111, 109, 109, 105, 116, 32]⟩ ++ d) ++ ⟨#[32]⟩) ++ h) ++ ⟨#[32]⟩) ++ b
theorem textB_com (c : Com) : textB (decIS c.who) (strB (hexL c.hash)) (strB (hexL c.box)) = strB (comT c) := bytes_eq (by
  unfold textB
  rw [strB_list]
  simp only [ByteArray.data_append, Array.toList_append, decIS_list, strB_list, List.append_assoc]
  unfold comT commitL
  simp)
theorem textB_size (d h b : ByteArray) : (textB d h b).size = 7 + d.size + 1 + h.size + 1 + b.size := by
  unfold textB
  simp only [ByteArray.size_append]
  rfl

set_option maxRecDepth 100000 in
set_option maxHeartbeats 2000000 in
theorem comText_q (c : Com) (hc : c.hash.length = 32) (h1 : I64 c.who) (hs : c.box.length ≤ 1000) : RetT 66 #[.agg (comA c)] (.string (strB (comT c))) := by
  intro w hT
  have HT := Lib.hid hT
  clear hT
  have hbs : (strB c.box).size = c.box.length := strB_size _
  have m1 := Lib.hid (itoa_int c.who h1)
  have m2 := Lib.hid (Text_h c.hash hc)
  have m3 := Lib.hid (hex_q (strB c.box) (by omega))
  rw [strB_list] at m3
  have s1 := decIS_size h1
  have s2 : (strB (hexL c.hash)).size ≤ 64 := by rw [strB_size, hexL_len, hc]; omega
  have s3 : (strB (hexL c.box)).size ≤ 2000 := by rw [strB_size, hexL_len]; omega
  obtain ⟨out, hout⟩ : ∃ out, out = strB (comT c) := ⟨_, rfl⟩
  have hcat : textB (decIS c.who) (strB (hexL c.hash)) (strB (hexL c.box)) = out := by rw [hout]; exact textB_com c
  rw [← hout]
  unfold textB at hcat
  have HC := Lib.hid hc
  have HO := Lib.hid hcat
  clear hout hcat hc hbs
  generalize strB (hexL c.box) = d3 at *
  generalize strB (hexL c.hash) = d2 at *
  generalize decIS c.who = d1 at *
  have z1 : ¬ 9223372036854775807 < 7 + d1.size := by omega
  have z2 : ¬ 9223372036854775807 < 7 + d1.size + 1 := by omega
  have z3 : ¬ 9223372036854775807 < 7 + d1.size + 1 + d2.size := by omega
  have z4 : ¬ 9223372036854775807 < 7 + d1.size + 1 + d2.size + 1 := by omega
  have z5 : ¬ 9223372036854775807 < 7 + d1.size + 1 + d2.size + 1 + d3.size := by omega
  go_enter Tryz.func66, Tryz.ntmps66
  go_upto_region 1 with fail
  refine nameOne (comA c) rfl ?_
  intro w0 k0 hB
  obtain ⟨B, hBe⟩ : ∃ B, B = w.heap.size := ⟨_, rfl⟩
  rw [← hBe] at k0 ⊢
  clear hBe
  have hBd := hB.drew
  have k0d : Blk w0.drew B 73 (comA c) := k0
  refine region_here (fun Z : World => Z.cell? ⟨B, 0, none⟩ = some (.int .i64 c.who) ∧ Z.cell? ⟨B, 33, none⟩ = some (.string (strB c.box)) ∧ Blk Z B 73 (comA c)) 13 (by kernel_rfl) ⟨k0d.cell 0, (k0d.cell 33).trans (com_box HC.out), k0d⟩ (fun hHeld => ?_)
  refine wpAnyS_take [1, 2, 3, 4, 7, 8, 9, 12, 13, 14] (i := 0) (oi := ⟨_, _, _, _, _, _⟩) (v := ?_) (by simp) (by kernel_rfl) rfl (by kernel_rfl) (by kernel_rfl) (by kernel_rfl) (fun _ _ _ h => h) (Or.inl ⟨by rfl, ?_⟩) (by assumption) ?_
  rotate_left
  · (intro w hSw; (try dsimp only at hSw); go_simp; try with_reducible rfl)
  try simp only [Act.put, List.setIfInBounds_toArray, List.set_cons_zero, List.set_cons_succ]
  refine wpAnyS_take [2, 3, 4, 7, 8, 9, 12, 13, 14] (i := 1) (oi := ⟨_, _, _, _, _, _⟩) (v := ?_) (by simp) (by kernel_rfl) rfl (by kernel_rfl) (by kernel_rfl) (by kernel_rfl) (fun _ _ _ h => h) (Or.inl ⟨by rfl, ?_⟩) (by assumption) ?_
  rotate_left
  · (intro w hSw; (try dsimp only at hSw); go_simp; try with_reducible rfl)
  try simp only [Act.put, List.setIfInBounds_toArray, List.set_cons_zero, List.set_cons_succ]
  refine wpAnyS_take [6, 7, 8, 9, 12, 13, 14] (i := 5) (oi := ⟨_, _, _, _, _, _⟩) (v := ?_) (by simp) (by kernel_rfl) rfl (by kernel_rfl) (by kernel_rfl) (by kernel_rfl) (fun _ _ _ h => h) (Or.inl ⟨by rfl, ?_⟩) (by assumption) ?_
  rotate_left
  · (intro w hSw; (try dsimp only at hSw); go_simp; try with_reducible rfl)
  try simp only [Act.put, List.setIfInBounds_toArray, List.set_cons_zero, List.set_cons_succ]
  refine wpAnyS_take [7, 8, 9, 12, 13, 14] (i := 6) (oi := ⟨_, _, _, _, _, _⟩) (v := .agg (u8a c.hash)) (by simp) (by kernel_rfl) rfl (by kernel_rfl) (by kernel_rfl) (by kernel_rfl) (fun _ _ _ h => h) (yieldsIf_load_mid rfl 71 (.tmp 8) rfl B 1 rfl (u8l c.hash) _ (fun Z hZ => com_range hZ.2.2) Tryz.underlying71 rfl (by rw [u8l_len, HC.out]; exact hash_size)) (by assumption) ?_
  try simp only [Act.put, List.setIfInBounds_toArray, List.set_cons_zero, List.set_cons_succ]
  refine wpAnyS_take [11, 12, 13, 14] (i := 10) (oi := ⟨_, _, _, _, _, _⟩) (v := ?_) (by simp) (by kernel_rfl) rfl (by kernel_rfl) (by kernel_rfl) (by kernel_rfl) (fun _ _ _ h => h) (Or.inl ⟨by rfl, ?_⟩) (by assumption) ?_
  rotate_left
  · (intro w hSw; (try dsimp only at hSw); go_simp; try with_reducible rfl)
  try simp only [Act.put, List.setIfInBounds_toArray, List.set_cons_zero, List.set_cons_succ]
  refine wpAnyS_take [12, 13, 14] (i := 11) (oi := ⟨_, _, _, _, _, _⟩) (v := ?_) (by simp) (by kernel_rfl) rfl (by kernel_rfl) (by kernel_rfl) (by kernel_rfl) (fun _ _ _ h => h) (Or.inl ⟨by rfl, ?_⟩) (by assumption) ?_
  rotate_left
  · (intro w hSw; (try dsimp only at hSw); go_simp; try with_reducible rfl)
  try simp only [Act.put, List.setIfInBounds_toArray, List.set_cons_zero, List.set_cons_succ]
  refine wpAnyS_one (i := 2) (oi := ⟨_, _, _, _, _, _⟩) rfl (by kernel_rfl) (fun K hK => ?_)
  go_simp
  go_at_call 85
  (with_reducible refine (m1.out _ ?_).mono ?_)
  · exact HT.out.below hBd
  rintro e w1 ⟨rfl, hb1⟩
  (try go_wp2_with fail)
  refine hK.out _ _ ?_ (fun hHeld2 => ?_)
  · exact com_b hb1 hHeld
  clear hK K
  try simp only [Act.put, List.setIfInBounds_toArray, List.set_cons_zero, List.set_cons_succ]
  refine wpAnyS_take [4, 8, 9, 13, 14] (i := 3) (oi := ⟨_, _, _, _, _, _⟩) (v := ?_) (by simp) (by kernel_rfl) rfl (by kernel_rfl) (by kernel_rfl) (by kernel_rfl) (fun _ _ _ h => h) (Or.inl ⟨by rfl, ?_⟩) (by assumption) ?_
  rotate_left
  · (intro w hSw; (try dsimp only at hSw); go_simp; try with_reducible rfl)
  try simp only [Act.put, List.setIfInBounds_toArray, List.set_cons_zero, List.set_cons_succ]
  refine wpAnyS_take [8, 9, 13, 14] (i := 4) (oi := ⟨_, _, _, _, _, _⟩) (v := ?_) (by simp) (by kernel_rfl) rfl (by kernel_rfl) (by kernel_rfl) (by kernel_rfl) (fun _ _ _ h => h) (Or.inl ⟨by rfl, ?_⟩) (by assumption) ?_
  rotate_left
  · (intro w hSw; (try dsimp only at hSw); go_simp; try with_reducible rfl)
  try simp only [Act.put, List.setIfInBounds_toArray, List.set_cons_zero, List.set_cons_succ]
  refine wpAnyS_one (i := 7) (oi := ⟨_, _, _, _, _, _⟩) rfl (by kernel_rfl) (fun K hK => ?_)
  go_simp
  go_at_call 114
  (with_reducible refine (m2.out _).mono ?_)
  rintro e w2 ⟨rfl, hb2⟩
  (try go_wp2_with fail)
  refine hK.out _ _ ?_ (fun hHeld7 => ?_)
  · exact com_b hb2 hHeld2
  clear hK K
  try simp only [Act.put, List.setIfInBounds_toArray, List.set_cons_zero, List.set_cons_succ]
  refine wpAnyS_take [9, 13, 14] (i := 8) (oi := ⟨_, _, _, _, _, _⟩) (v := ?_) (by simp) (by kernel_rfl) rfl (by kernel_rfl) (by kernel_rfl) (by kernel_rfl) (fun _ _ _ h => h) (Or.inl ⟨by rfl, ?_⟩) (by assumption) ?_
  rotate_left
  · (intro w hSw; (try dsimp only at hSw); go_simp; try with_reducible rfl)
  try simp only [Act.put, List.setIfInBounds_toArray, List.set_cons_zero, List.set_cons_succ]
  refine wpAnyS_take [13, 14] (i := 9) (oi := ⟨_, _, _, _, _, _⟩) (v := ?_) (by simp) (by kernel_rfl) rfl (by kernel_rfl) (by kernel_rfl) (by kernel_rfl) (fun _ _ _ h => h) (Or.inl ⟨by rfl, ?_⟩) (by assumption) ?_
  rotate_left
  · (intro w hSw; (try dsimp only at hSw); go_simp; try with_reducible rfl)
  try simp only [Act.put, List.setIfInBounds_toArray, List.set_cons_zero, List.set_cons_succ]
  refine wpAnyS_one (i := 12) (oi := ⟨_, _, _, _, _, _⟩) rfl (by kernel_rfl) (fun K hK => ?_)
  go_simp
  go_at_call 118
  (with_reducible refine (m3.out _).mono ?_)
  rintro e w3 ⟨rfl, hb3⟩
  (try go_wp2_with fail)
  refine hK.out _ _ ?_ (fun hHeld12 => ?_)
  · exact com_b hb3 hHeld7
  clear hK K
  try simp only [Act.put, List.setIfInBounds_toArray, List.set_cons_zero, List.set_cons_succ]
  refine wpAnyS_call (k := 13) (ok := ⟨_, _, _, _, _, _⟩) rfl (by kernel_rfl) (by kernel_rfl) (fun K hK => ?_)
  go_simp
  refine hK.out _ _ ?_
  clear hK K
  try simp only [Act.put, List.setIfInBounds_toArray, List.set_cons_zero, List.set_cons_succ]
  refine wpAny_take (i := 14) (oi := ⟨_, _, _, _, _, _⟩) (v := ?_) rfl (by kernel_rfl) (by kernel_rfl) (by kernel_rfl) (fun _ _ _ h => h) (Or.inl ⟨by rfl, ?_⟩) ?_
  rotate_left
  · (intro w; go_simp; try with_reducible rfl)
  try simp only [Act.put, List.setIfInBounds_toArray, List.set_cons_zero, List.set_cons_succ]
  refine wpAny_done (by kernel_rfl) ?_ _
  have hBz := below_then (below_then (below_then hBd hb1) hb2) hb3
  go_wp2_with fail
  go_ret
  exact ⟨by rw [HO.out]; rfl, hBz⟩

set_option maxRecDepth 100000 in
set_option maxHeartbeats 2000000 in
theorem rcomText_q (c : Com) (hc : c.hash.length = 32) (h1 : I64 c.who) (hs : c.box.length ≤ 1000) : Ret 67 #[.agg (comA c)] (.string (strB (comT c))) := by
  intro w
  have hbs : (strB c.box).size = c.box.length := strB_size _
  have m1 := Lib.hid (Decimal_q c.who h1)
  have m2 := Lib.hid (rText_h c.hash hc)
  have m3 := Lib.hid (rHex_q (strB c.box) (by omega))
  rw [strB_list] at m3
  have s1 := decIS_size h1
  have s2 : (strB (hexL c.hash)).size ≤ 64 := by rw [strB_size, hexL_len, hc]; omega
  have s3 : (strB (hexL c.box)).size ≤ 2000 := by rw [strB_size, hexL_len]; omega
  obtain ⟨out, hout⟩ : ∃ out, out = strB (comT c) := ⟨_, rfl⟩
  have hcat : textB (decIS c.who) (strB (hexL c.hash)) (strB (hexL c.box)) = out := by rw [hout]; exact textB_com c
  rw [← hout]
  unfold textB at hcat
  have HC := Lib.hid hc
  have HO := Lib.hid hcat
  clear hout hcat hc hbs
  generalize strB (hexL c.box) = d3 at *
  generalize strB (hexL c.hash) = d2 at *
  generalize decIS c.who = d1 at *
  have z1 : ¬ 9223372036854775807 < 7 + d1.size := by omega
  have z2 : ¬ 9223372036854775807 < 7 + d1.size + 1 := by omega
  have z3 : ¬ 9223372036854775807 < 7 + d1.size + 1 + d2.size := by omega
  have z4 : ¬ 9223372036854775807 < 7 + d1.size + 1 + d2.size + 1 := by omega
  have z5 : ¬ 9223372036854775807 < 7 + d1.size + 1 + d2.size + 1 + d3.size := by omega
  go_enter Tryz.func67, Tryz.ntmps67
  go_upto_region 1 with fail
  refine nameOne (comA c) rfl ?_
  intro w0 k0 hB
  obtain ⟨B, hBe⟩ : ∃ B, B = w.heap.size := ⟨_, rfl⟩
  rw [← hBe] at k0 ⊢
  clear hBe
  have hBd := hB.drew
  have k0d : Blk w0.drew B 73 (comA c) := k0
  refine region_here (fun Z : World => Z.cell? ⟨B, 0, none⟩ = some (.int .i64 c.who) ∧ Z.cell? ⟨B, 33, none⟩ = some (.string (strB c.box)) ∧ Blk Z B 73 (comA c)) 13 (by kernel_rfl) ⟨k0d.cell 0, (k0d.cell 33).trans (com_box HC.out), k0d⟩ (fun hHeld => ?_)
  refine wpAnyS_take [1, 2, 3, 4, 7, 8, 9, 12, 13, 14] (i := 0) (oi := ⟨_, _, _, _, _, _⟩) (v := ?_) (by simp) (by kernel_rfl) rfl (by kernel_rfl) (by kernel_rfl) (by kernel_rfl) (fun _ _ _ h => h) (Or.inl ⟨by rfl, ?_⟩) (by assumption) ?_
  rotate_left
  · (intro w hSw; (try dsimp only at hSw); go_simp; try with_reducible rfl)
  try simp only [Act.put, List.setIfInBounds_toArray, List.set_cons_zero, List.set_cons_succ]
  refine wpAnyS_take [2, 3, 4, 7, 8, 9, 12, 13, 14] (i := 1) (oi := ⟨_, _, _, _, _, _⟩) (v := ?_) (by simp) (by kernel_rfl) rfl (by kernel_rfl) (by kernel_rfl) (by kernel_rfl) (fun _ _ _ h => h) (Or.inl ⟨by rfl, ?_⟩) (by assumption) ?_
  rotate_left
  · (intro w hSw; (try dsimp only at hSw); go_simp; try with_reducible rfl)
  try simp only [Act.put, List.setIfInBounds_toArray, List.set_cons_zero, List.set_cons_succ]
  refine wpAnyS_take [6, 7, 8, 9, 12, 13, 14] (i := 5) (oi := ⟨_, _, _, _, _, _⟩) (v := ?_) (by simp) (by kernel_rfl) rfl (by kernel_rfl) (by kernel_rfl) (by kernel_rfl) (fun _ _ _ h => h) (Or.inl ⟨by rfl, ?_⟩) (by assumption) ?_
  rotate_left
  · (intro w hSw; (try dsimp only at hSw); go_simp; try with_reducible rfl)
  try simp only [Act.put, List.setIfInBounds_toArray, List.set_cons_zero, List.set_cons_succ]
  refine wpAnyS_take [7, 8, 9, 12, 13, 14] (i := 6) (oi := ⟨_, _, _, _, _, _⟩) (v := .agg (u8a c.hash)) (by simp) (by kernel_rfl) rfl (by kernel_rfl) (by kernel_rfl) (by kernel_rfl) (fun _ _ _ h => h) (yieldsIf_load_mid rfl 71 (.tmp 8) rfl B 1 rfl (u8l c.hash) _ (fun Z hZ => com_range hZ.2.2) Tryz.underlying71 rfl (by rw [u8l_len, HC.out]; exact hash_size)) (by assumption) ?_
  try simp only [Act.put, List.setIfInBounds_toArray, List.set_cons_zero, List.set_cons_succ]
  refine wpAnyS_take [11, 12, 13, 14] (i := 10) (oi := ⟨_, _, _, _, _, _⟩) (v := ?_) (by simp) (by kernel_rfl) rfl (by kernel_rfl) (by kernel_rfl) (by kernel_rfl) (fun _ _ _ h => h) (Or.inl ⟨by rfl, ?_⟩) (by assumption) ?_
  rotate_left
  · (intro w hSw; (try dsimp only at hSw); go_simp; try with_reducible rfl)
  try simp only [Act.put, List.setIfInBounds_toArray, List.set_cons_zero, List.set_cons_succ]
  refine wpAnyS_take [12, 13, 14] (i := 11) (oi := ⟨_, _, _, _, _, _⟩) (v := ?_) (by simp) (by kernel_rfl) rfl (by kernel_rfl) (by kernel_rfl) (by kernel_rfl) (fun _ _ _ h => h) (Or.inl ⟨by rfl, ?_⟩) (by assumption) ?_
  rotate_left
  · (intro w hSw; (try dsimp only at hSw); go_simp; try with_reducible rfl)
  try simp only [Act.put, List.setIfInBounds_toArray, List.set_cons_zero, List.set_cons_succ]
  refine wpAnyS_one (i := 2) (oi := ⟨_, _, _, _, _, _⟩) rfl (by kernel_rfl) (fun K hK => ?_)
  go_simp
  go_at_call 110
  (with_reducible refine (m1.out _).mono ?_)
  rintro e w1 ⟨rfl, hb1⟩
  (try go_wp2_with fail)
  refine hK.out _ _ ?_ (fun hHeld2 => ?_)
  · exact com_b hb1 hHeld
  clear hK K
  try simp only [Act.put, List.setIfInBounds_toArray, List.set_cons_zero, List.set_cons_succ]
  refine wpAnyS_take [4, 8, 9, 13, 14] (i := 3) (oi := ⟨_, _, _, _, _, _⟩) (v := ?_) (by simp) (by kernel_rfl) rfl (by kernel_rfl) (by kernel_rfl) (by kernel_rfl) (fun _ _ _ h => h) (Or.inl ⟨by rfl, ?_⟩) (by assumption) ?_
  rotate_left
  · (intro w hSw; (try dsimp only at hSw); go_simp; try with_reducible rfl)
  try simp only [Act.put, List.setIfInBounds_toArray, List.set_cons_zero, List.set_cons_succ]
  refine wpAnyS_take [8, 9, 13, 14] (i := 4) (oi := ⟨_, _, _, _, _, _⟩) (v := ?_) (by simp) (by kernel_rfl) rfl (by kernel_rfl) (by kernel_rfl) (by kernel_rfl) (fun _ _ _ h => h) (Or.inl ⟨by rfl, ?_⟩) (by assumption) ?_
  rotate_left
  · (intro w hSw; (try dsimp only at hSw); go_simp; try with_reducible rfl)
  try simp only [Act.put, List.setIfInBounds_toArray, List.set_cons_zero, List.set_cons_succ]
  refine wpAnyS_one (i := 7) (oi := ⟨_, _, _, _, _, _⟩) rfl (by kernel_rfl) (fun K hK => ?_)
  go_simp
  go_at_call 103
  (with_reducible refine (m2.out _).mono ?_)
  rintro e w2 ⟨rfl, hb2⟩
  (try go_wp2_with fail)
  refine hK.out _ _ ?_ (fun hHeld7 => ?_)
  · exact com_b hb2 hHeld2
  clear hK K
  try simp only [Act.put, List.setIfInBounds_toArray, List.set_cons_zero, List.set_cons_succ]
  refine wpAnyS_take [9, 13, 14] (i := 8) (oi := ⟨_, _, _, _, _, _⟩) (v := ?_) (by simp) (by kernel_rfl) rfl (by kernel_rfl) (by kernel_rfl) (by kernel_rfl) (fun _ _ _ h => h) (Or.inl ⟨by rfl, ?_⟩) (by assumption) ?_
  rotate_left
  · (intro w hSw; (try dsimp only at hSw); go_simp; try with_reducible rfl)
  try simp only [Act.put, List.setIfInBounds_toArray, List.set_cons_zero, List.set_cons_succ]
  refine wpAnyS_take [13, 14] (i := 9) (oi := ⟨_, _, _, _, _, _⟩) (v := ?_) (by simp) (by kernel_rfl) rfl (by kernel_rfl) (by kernel_rfl) (by kernel_rfl) (fun _ _ _ h => h) (Or.inl ⟨by rfl, ?_⟩) (by assumption) ?_
  rotate_left
  · (intro w hSw; (try dsimp only at hSw); go_simp; try with_reducible rfl)
  try simp only [Act.put, List.setIfInBounds_toArray, List.set_cons_zero, List.set_cons_succ]
  refine wpAnyS_one (i := 12) (oi := ⟨_, _, _, _, _, _⟩) rfl (by kernel_rfl) (fun K hK => ?_)
  go_simp
  go_at_call 119
  (with_reducible refine (m3.out _).mono ?_)
  rintro e w3 ⟨rfl, hb3⟩
  (try go_wp2_with fail)
  refine hK.out _ _ ?_ (fun hHeld12 => ?_)
  · exact com_b hb3 hHeld7
  clear hK K
  try simp only [Act.put, List.setIfInBounds_toArray, List.set_cons_zero, List.set_cons_succ]
  refine wpAnyS_call (k := 13) (ok := ⟨_, _, _, _, _, _⟩) rfl (by kernel_rfl) (by kernel_rfl) (fun K hK => ?_)
  go_simp
  refine hK.out _ _ ?_
  clear hK K
  try simp only [Act.put, List.setIfInBounds_toArray, List.set_cons_zero, List.set_cons_succ]
  refine wpAny_take (i := 14) (oi := ⟨_, _, _, _, _, _⟩) (v := ?_) rfl (by kernel_rfl) (by kernel_rfl) (by kernel_rfl) (fun _ _ _ h => h) (Or.inl ⟨by rfl, ?_⟩) ?_
  rotate_left
  · (intro w; go_simp; try with_reducible rfl)
  try simp only [Act.put, List.setIfInBounds_toArray, List.set_cons_zero, List.set_cons_succ]
  refine wpAny_done (by kernel_rfl) ?_ _
  have hBz := below_then (below_then (below_then hBd hb1) hb2) hb3
  go_wp2_with fail
  go_ret
  exact ⟨by rw [HO.out]; rfl, hBz⟩

end Go.Proofs.YtebgmlbbilcbbaaGreatDoor
