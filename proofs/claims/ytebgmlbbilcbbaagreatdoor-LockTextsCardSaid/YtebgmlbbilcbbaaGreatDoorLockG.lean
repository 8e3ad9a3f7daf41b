/- Locks: Opens and pads of both. -/
import Derived.Test.YtebgmlbbilcbbaaGreatDoorLockF
namespace Go.Proofs.YtebgmlbbilcbbaaGreatDoor
open Go.RowKit
attribute [local go_sem] Oper.semAt_some

/-- A commitment's block, behind a frame. -/
theorem com_b {c : Com} {B : Nat} {w w' : World} (hb : Below w.heap.size w w') (h : w.cell? ⟨B, 0, none⟩ = some (.int .i64 c.who) ∧ w.cell? ⟨B, 33, none⟩ = some (.string (strB c.box)) ∧ Blk w B 73 (comA c)) :
    w'.cell? ⟨B, 0, none⟩ = some (.int .i64 c.who) ∧ w'.cell? ⟨B, 33, none⟩ = some (.string (strB c.box)) ∧ Blk w' B 73 (comA c) := ⟨cell_b hb h.1, cell_b hb h.2.1, h.2.2.below hb h.2.2.lt⟩
theorem com_rangeAll {w : World} {k : Nat} {t : TypeId} {c : Com} (hk : Blk w k t (comA c)) : w.rangeAt k 0 (comCells c) := fun j v hv => by
  rw [Nat.zero_add]
  exact (hk.cell j).trans (by show (comCells c).toArray[j]? = _; rw [List.getElem?_toArray]; exact hv)
/-- Whether a secret opens a commitment. -/
def opensR (c : Com) (round : Int) (s : List UInt8) : Bool := decide (c.hash = secretH c.who round s)
/-- The text from which the delay of a box begins, as it is put together. -/
def boxB (d1 d2 h : ByteArray) : ByteArray := ((((⟨#[98, 111, 120, 47]⟩ ++ d1) ++ ⟨#[47]⟩) ++ d2) ++ ⟨#[47]⟩) ++ h
theorem boxB_list (who round : Int) (h : List UInt8) : (boxB (decIS who) (decIS round) (strB (hexL h))).data.toList = boxL who round h := by
  unfold boxB boxL
  simp only [ByteArray.data_append, Array.toList_append, decIS_list, strB_list, List.append_assoc]
  rfl
theorem boxB_size (d1 d2 s : ByteArray) : (boxB d1 d2 s).size = 4 + d1.size + 1 + d2.size + 1 + s.size := by
  unfold boxB
  simp only [ByteArray.size_append]
  rfl
def padB (d : ByteArray) : ByteArray := ⟨#[112, 97, 100, 47]⟩ ++ d
theorem padB_list (n : Nat) : (padB (decS n)).data.toList = [112, 97, 100, 47] ++ Lib.decDigits n := by
  unfold padB
  rw [ByteArray.data_append, Array.toList_append, decS_list]
theorem padB_size (d : ByteArray) : (padB d).size = 4 + d.size := by unfold padB; rw [ByteArray.size_append]; rfl

set_option maxRecDepth 100000 in
set_option maxHeartbeats 2000000 in
theorem Opens_q (c : Com) (round : Int) (s : ByteArray) (hc : c.hash.length = 32) (h1 : I64 c.who) (h2 : I64 round) (hs : s.size ≤ 100000) :
    RetT 53 #[.agg (comA c), .int .i64 round, .string s] (.bool (opensR c round s.data.toList)) := by
  intro w hT
  have HT := Lib.hid hT
  clear hT
  have m1 := Lib.hid (secretHash_q c.who round s h1 h2 hs)
  obtain ⟨g, hg⟩ : ∃ g, g = secretH c.who round s.data.toList := ⟨_, rfl⟩
  have hgl : g.length = 32 := by rw [hg]; exact sha_len _
  have hO : opensR c round s.data.toList = decide (c.hash = g) := by rw [hg]; rfl
  rw [hO]
  rw [← hg] at m1
  have HC := Lib.hid hc
  have hEq := fun w => run_eq_hash hc hgl 9998 w
  clear hO hg hc hgl
  go_enter Tryz.func53, Tryz.ntmps53
  go_upto_region 1 with fail
  refine nameOne (comA c) rfl ?_
  intro w0 k0 hB
  obtain ⟨B, hBe⟩ : ∃ B, B = w.heap.size := ⟨_, rfl⟩
  rw [← hBe] at k0 ⊢
  clear hBe
  have hBd := hB.drew
  have k0d : Blk w0.drew B 73 (comA c) := k0
  refine region_here (fun Z : World => Z.cell? ⟨B, 0, none⟩ = some (.int .i64 c.who) ∧ Z.cell? ⟨B, 33, none⟩ = some (.string (strB c.box)) ∧ Blk Z B 73 (comA c)) 7 (by kernel_rfl) ⟨k0d.cell 0, (k0d.cell 33).trans (com_box HC.out), k0d⟩ (fun hHeld => ?_)
  refine wpAnyS_take [1, 7, 8] (i := 0) (oi := ⟨_, _, _, _, _, _⟩) (v := ?_) (by simp) (by kernel_rfl) rfl (by kernel_rfl) (by kernel_rfl) (by kernel_rfl) (fun _ _ _ h => h) (Or.inl ⟨by rfl, ?_⟩) (by assumption) ?_
  rotate_left
  · (intro w hSw; (try dsimp only at hSw); go_simp; try with_reducible rfl)
  try simp only [Act.put, List.setIfInBounds_toArray, List.set_cons_zero, List.set_cons_succ]
  refine wpAnyS_take [7, 8] (i := 1) (oi := ⟨_, _, _, _, _, _⟩) (v := .agg (u8a c.hash)) (by simp) (by kernel_rfl) rfl (by kernel_rfl) (by kernel_rfl) (by kernel_rfl) (fun _ _ _ h => h) (yieldsIf_load_mid rfl 71 (.tmp 7) rfl B 1 rfl (u8l c.hash) _ (fun Z hZ => com_range hZ.2.2) Tryz.underlying71 rfl (by rw [u8l_len, HC.out]; exact hash_size)) (by assumption) ?_
  try simp only [Act.put, List.setIfInBounds_toArray, List.set_cons_zero, List.set_cons_succ]
  refine wpAnyS_take [3, 6, 7, 8] (i := 2) (oi := ⟨_, _, _, _, _, _⟩) (v := ?_) (by simp) (by kernel_rfl) rfl (by kernel_rfl) (by kernel_rfl) (by kernel_rfl) (fun _ _ _ h => h) (Or.inl ⟨by rfl, ?_⟩) (by assumption) ?_
  rotate_left
  · (intro w hSw; (try dsimp only at hSw); go_simp; try with_reducible rfl)
  try simp only [Act.put, List.setIfInBounds_toArray, List.set_cons_zero, List.set_cons_succ]
  refine wpAnyS_take [6, 7, 8] (i := 3) (oi := ⟨_, _, _, _, _, _⟩) (v := ?_) (by simp) (by kernel_rfl) rfl (by kernel_rfl) (by kernel_rfl) (by kernel_rfl) (fun _ _ _ h => h) (Or.inl ⟨by rfl, ?_⟩) (by assumption) ?_
  rotate_left
  · (intro w hSw; (try dsimp only at hSw); go_simp; try with_reducible rfl)
  try simp only [Act.put, List.setIfInBounds_toArray, List.set_cons_zero, List.set_cons_succ]
  refine wpAnyS_take [6, 7, 8] (i := 4) (oi := ⟨_, _, _, _, _, _⟩) (v := ?_) (by simp) (by kernel_rfl) rfl (by kernel_rfl) (by kernel_rfl) (by kernel_rfl) (fun _ _ _ h => h) (Or.inl ⟨by rfl, ?_⟩) (by assumption) ?_
  rotate_left
  · (intro w hSw; (try dsimp only at hSw); go_simp; try with_reducible rfl)
  try simp only [Act.put, List.setIfInBounds_toArray, List.set_cons_zero, List.set_cons_succ]
  refine wpAnyS_take [6, 7, 8] (i := 5) (oi := ⟨_, _, _, _, _, _⟩) (v := ?_) (by simp) (by kernel_rfl) rfl (by kernel_rfl) (by kernel_rfl) (by kernel_rfl) (fun _ _ _ h => h) (Or.inl ⟨by rfl, ?_⟩) (by assumption) ?_
  rotate_left
  · (intro w hSw; (try dsimp only at hSw); go_simp; try with_reducible rfl)
  try simp only [Act.put, List.setIfInBounds_toArray, List.set_cons_zero, List.set_cons_succ]
  refine wpAnyS_one (i := 6) (oi := ⟨_, _, _, _, _, _⟩) rfl (by kernel_rfl) (fun K hK => ?_)
  go_simp
  go_at_call 104
  (with_reducible refine (m1.out _ ?_).mono ?_)
  · exact HT.out.below hBd
  rintro e w1 ⟨rfl, hb1⟩
  (try go_wp2_with fail)
  refine hK.out _ _ ?_ (fun hHeld6 => ?_)
  · exact com_b hb1 hHeld
  clear hK K
  try simp only [Act.put, List.setIfInBounds_toArray, List.set_cons_zero, List.set_cons_succ]
  refine wpAnyS_call (k := 7) (ok := ⟨_, _, _, _, _, _⟩) rfl (by kernel_rfl) (by kernel_rfl) (fun K hK => ?_)
  go_simp
  refine hK.out _ _ ?_
  clear hK K
  try simp only [Act.put, List.setIfInBounds_toArray, List.set_cons_zero, List.set_cons_succ]
  refine wpAny_take (i := 8) (oi := ⟨_, _, _, _, _, _⟩) (v := ?_) rfl (by kernel_rfl) (by kernel_rfl) (by kernel_rfl) (fun _ _ _ h => h) (Or.inl ⟨by rfl, ?_⟩) ?_
  rotate_left
  · (intro w; go_simp; try with_reducible rfl)
  try simp only [Act.put, List.setIfInBounds_toArray, List.set_cons_zero, List.set_cons_succ]
  refine wpAny_done (by kernel_rfl) ?_ _
  have hBz := below_then hBd hb1
  go_wp2_with fail
  go_ret
  exact ⟨rfl, hBz⟩

set_option maxRecDepth 100000 in
set_option maxHeartbeats 2000000 in
theorem rOpens_q (c : Com) (round : Int) (s : ByteArray) (hc : c.hash.length = 32) (h1 : I64 c.who) (h2 : I64 round) (hs : s.size ≤ 100000) :
    Ret 56 #[.agg (comA c), .int .i64 round, .string s] (.bool (opensR c round s.data.toList)) := by
  intro w
  have m1 := Lib.hid (rHash_q c.who round s h1 h2 hs)
  obtain ⟨g, hg⟩ : ∃ g, g = secretH c.who round s.data.toList := ⟨_, rfl⟩
  have hgl : g.length = 32 := by rw [hg]; exact sha_len _
  have hO : opensR c round s.data.toList = decide (g = c.hash) := by rw [hg]; unfold opensR; exact decide_eq_decide.2 eq_comm
  rw [hO]
  rw [← hg] at m1
  have HC := Lib.hid hc
  have hEq := fun w => run_eq_hash hgl hc 9998 w
  clear hO hg hc hgl
  go_enter Tryz.func56, Tryz.ntmps56
  go_upto_region 1 with fail
  refine nameOne (comA c) rfl ?_
  intro w0 k0 hB
  obtain ⟨B, hBe⟩ : ∃ B, B = w.heap.size := ⟨_, rfl⟩
  rw [← hBe] at k0 ⊢
  clear hBe
  have hBd := hB.drew
  have k0d : Blk w0.drew B 73 (comA c) := k0
  refine region_here (fun Z : World => Z.cell? ⟨B, 0, none⟩ = some (.int .i64 c.who) ∧ Z.cell? ⟨B, 33, none⟩ = some (.string (strB c.box)) ∧ Blk Z B 73 (comA c)) 7 (by kernel_rfl) ⟨k0d.cell 0, (k0d.cell 33).trans (com_box HC.out), k0d⟩ (fun hHeld => ?_)
  refine wpAnyS_take [1, 4, 7, 8] (i := 0) (oi := ⟨_, _, _, _, _, _⟩) (v := ?_) (by simp) (by kernel_rfl) rfl (by kernel_rfl) (by kernel_rfl) (by kernel_rfl) (fun _ _ _ h => h) (Or.inl ⟨by rfl, ?_⟩) (by assumption) ?_
  rotate_left
  · (intro w hSw; (try dsimp only at hSw); go_simp; try with_reducible rfl)
  try simp only [Act.put, List.setIfInBounds_toArray, List.set_cons_zero, List.set_cons_succ]
  refine wpAnyS_take [4, 7, 8] (i := 1) (oi := ⟨_, _, _, _, _, _⟩) (v := ?_) (by simp) (by kernel_rfl) rfl (by kernel_rfl) (by kernel_rfl) (by kernel_rfl) (fun _ _ _ h => h) (Or.inl ⟨by rfl, ?_⟩) (by assumption) ?_
  rotate_left
  · (intro w hSw; (try dsimp only at hSw); go_simp; try with_reducible rfl)
  try simp only [Act.put, List.setIfInBounds_toArray, List.set_cons_zero, List.set_cons_succ]
  refine wpAnyS_take [4, 7, 8] (i := 2) (oi := ⟨_, _, _, _, _, _⟩) (v := ?_) (by simp) (by kernel_rfl) rfl (by kernel_rfl) (by kernel_rfl) (by kernel_rfl) (fun _ _ _ h => h) (Or.inl ⟨by rfl, ?_⟩) (by assumption) ?_
  rotate_left
  · (intro w hSw; (try dsimp only at hSw); go_simp; try with_reducible rfl)
  try simp only [Act.put, List.setIfInBounds_toArray, List.set_cons_zero, List.set_cons_succ]
  refine wpAnyS_take [4, 7, 8] (i := 3) (oi := ⟨_, _, _, _, _, _⟩) (v := ?_) (by simp) (by kernel_rfl) rfl (by kernel_rfl) (by kernel_rfl) (by kernel_rfl) (fun _ _ _ h => h) (Or.inl ⟨by rfl, ?_⟩) (by assumption) ?_
  rotate_left
  · (intro w hSw; (try dsimp only at hSw); go_simp; try with_reducible rfl)
  try simp only [Act.put, List.setIfInBounds_toArray, List.set_cons_zero, List.set_cons_succ]
  refine wpAnyS_take [6, 7, 8] (i := 5) (oi := ⟨_, _, _, _, _, _⟩) (v := ?_) (by simp) (by kernel_rfl) rfl (by kernel_rfl) (by kernel_rfl) (by kernel_rfl) (fun _ _ _ h => h) (Or.inl ⟨by rfl, ?_⟩) (by assumption) ?_
  rotate_left
  · (intro w hSw; (try dsimp only at hSw); go_simp; try with_reducible rfl)
  try simp only [Act.put, List.setIfInBounds_toArray, List.set_cons_zero, List.set_cons_succ]
  refine wpAnyS_take [7, 8] (i := 6) (oi := ⟨_, _, _, _, _, _⟩) (v := .agg (u8a c.hash)) (by simp) (by kernel_rfl) rfl (by kernel_rfl) (by kernel_rfl) (by kernel_rfl) (fun _ _ _ h => h) (yieldsIf_load_mid rfl 71 (.tmp 12) rfl B 1 rfl (u8l c.hash) _ (fun Z hZ => com_range hZ.2.2) Tryz.underlying71 rfl (by rw [u8l_len, HC.out]; exact hash_size)) (by assumption) ?_
  try simp only [Act.put, List.setIfInBounds_toArray, List.set_cons_zero, List.set_cons_succ]
  refine wpAnyS_one (i := 4) (oi := ⟨_, _, _, _, _, _⟩) rfl (by kernel_rfl) (fun K hK => ?_)
  go_simp
  go_at_call 57
  (with_reducible refine (m1.out _).mono ?_)
  rintro e w1 ⟨rfl, hb1⟩
  (try go_wp2_with fail)
  refine hK.out _ _ ?_ (fun hHeld4 => ?_)
  · exact com_b hb1 hHeld
  clear hK K
  try simp only [Act.put, List.setIfInBounds_toArray, List.set_cons_zero, List.set_cons_succ]
  refine wpAnyS_call (k := 7) (ok := ⟨_, _, _, _, _, _⟩) rfl (by kernel_rfl) (by kernel_rfl) (fun K hK => ?_)
  go_simp
  refine hK.out _ _ ?_
  clear hK K
  try simp only [Act.put, List.setIfInBounds_toArray, List.set_cons_zero, List.set_cons_succ]
  refine wpAny_take (i := 8) (oi := ⟨_, _, _, _, _, _⟩) (v := ?_) rfl (by kernel_rfl) (by kernel_rfl) (by kernel_rfl) (fun _ _ _ h => h) (Or.inl ⟨by rfl, ?_⟩) ?_
  rotate_left
  · (intro w; go_simp; try with_reducible rfl)
  try simp only [Act.put, List.setIfInBounds_toArray, List.set_cons_zero, List.set_cons_succ]
  refine wpAny_done (by kernel_rfl) ?_ _
  have hBz := below_then hBd hb1
  go_wp2_with fail
  go_ret
  exact ⟨rfl, hBz⟩

set_option maxRecDepth 100000 in
set_option maxHeartbeats 2000000 in
theorem pad_q (c : Com) (round : Int) (sq n : Nat) (hc : c.hash.length = 32) (h1 : I64 c.who) (h2 : I64 round) (hsq : sq ≤ 1048576) (hn : n ≤ 300) :
    RetT 106 #[.agg (comA c), .int .i64 round, .int .i64 (sq : Int), .int .i64 (n : Int)] (.string (strB (padL c.who round c.hash sq n))) := by
  intro w hT
  have HT := Lib.hid hT
  clear hT
  have m1 := Lib.hid (itoa_int c.who h1)
  have m2 := Lib.hid (itoa_int round h2)
  have m3 := Lib.hid (Text_h c.hash hc)
  have s1 := decIS_size h1
  have s2 := decIS_size h2
  have s3 : (strB (hexL c.hash)).size = 64 := by rw [strB_size, hexL_len, hc]
  have m4 := Lib.hid (Start_q (boxB (decIS c.who) (decIS round) (strB (hexL c.hash))) (by rw [boxB_size]; omega))
  rw [boxB_list] at m4
  obtain ⟨V, hV⟩ : ∃ V, V = startN (boxL c.who round c.hash) := ⟨_, rfl⟩
  rw [← hV] at m4
  have hVl : V < modN := by rw [hV]; exact mod_lt _
  have m5 := Lib.hid ((Run_yes (natS V) sq (Nat.le_trans (natS_lt_mod hVl) (by omega)) hsq).of (by rw [sval_natS]))
  obtain ⟨E, hE⟩ : ∃ E, E = ranN V sq := ⟨_, rfl⟩
  have hEl : E < modN := by rw [hE]; exact ranN_lt _ _
  rw [← hE] at m5
  have hds : (decS E).size ≤ 1201 := by have := decS_len (a := natS E) (Nat.le_trans (natS_lt_mod hEl) (by omega)); rwa [sval_natS] at this
  have m6 : Hid (RetT 86 #[.string (natS E)] (.string (decS E))) := Lib.hid (fun W hW => by
    have := Text_any (natS E) W (Nat.le_trans (natS_lt_mod hEl) (by omega)) hW.p
    rwa [sval_natS] at this)
  have m7 := Lib.hid (Stream_q (padB (decS E)) n (by rw [padB_size]; omega) hn)
  have hp : streamL (padB (decS E)).data.toList n = padL c.who round c.hash sq n := by rw [padB_list, hE, hV]; rfl
  rw [hp] at m7
  unfold padB at m7
  unfold boxB at m4
  generalize padL c.who round c.hash sq n = out at m7 ⊢
  have HC := Lib.hid hc
  clear hp hV hE hc
  generalize decIS round = d2 at *
  generalize decIS c.who = d1 at *
  generalize decS E = d4 at *
  have hxs : (strB (hexL c.hash)).size ≤ 64 := by omega
  clear s3
  generalize strB (hexL c.hash) = d3 at *
  have z1 : ¬ 9223372036854775807 < 4 + d1.size := by omega
  have z2 : ¬ 9223372036854775807 < 4 + d1.size + 1 := by omega
  have z3 : ¬ 9223372036854775807 < 4 + d1.size + 1 + d2.size := by omega
  have z4 : ¬ 9223372036854775807 < 4 + d1.size + 1 + d2.size + 1 := by omega
  have z5 : ¬ 9223372036854775807 < 4 + d1.size + 1 + d2.size + 1 + d3.size := by omega
  have z6 : ¬ 9223372036854775807 < 4 + d4.size := by omega
  go_enter Tryz.func106, Tryz.ntmps106
  go_upto_region 1 with fail
  refine nameOne (comA c) rfl ?_
  intro w0 k0 hB
  obtain ⟨B, hBe⟩ : ∃ B, B = w.heap.size := ⟨_, rfl⟩
  rw [← hBe] at k0 ⊢
  clear hBe
  have hBd := hB.drew
  have k0d : Blk w0.drew B 73 (comA c) := k0
  refine region_here (fun Z : World => Z.cell? ⟨B, 0, none⟩ = some (.int .i64 c.who) ∧ Z.cell? ⟨B, 33, none⟩ = some (.string (strB c.box)) ∧ Blk Z B 73 (comA c)) 13 (by kernel_rfl) ⟨k0d.cell 0, (k0d.cell 33).trans (com_box HC.out), k0d⟩ (fun hHeld => ?_)
  refine wpAnyS_take [1, 2, 3, 4, 6, 7, 8, 11, 12, 13, 14] (i := 0) (oi := ⟨_, _, _, _, _, _⟩) (v := ?_) (by simp) (by kernel_rfl) rfl (by kernel_rfl) (by kernel_rfl) (by kernel_rfl) (fun _ _ _ h => h) (Or.inl ⟨by rfl, ?_⟩) (by assumption) ?_
  rotate_left
  · (intro w hSw; (try dsimp only at hSw); go_simp; try with_reducible rfl)
  try simp only [Act.put, List.setIfInBounds_toArray, List.set_cons_zero, List.set_cons_succ]
  refine wpAnyS_take [2, 3, 4, 6, 7, 8, 11, 12, 13, 14] (i := 1) (oi := ⟨_, _, _, _, _, _⟩) (v := ?_) (by simp) (by kernel_rfl) rfl (by kernel_rfl) (by kernel_rfl) (by kernel_rfl) (fun _ _ _ h => h) (Or.inl ⟨by rfl, ?_⟩) (by assumption) ?_
  rotate_left
  · (intro w hSw; (try dsimp only at hSw); go_simp; try with_reducible rfl)
  try simp only [Act.put, List.setIfInBounds_toArray, List.set_cons_zero, List.set_cons_succ]
  refine wpAnyS_take [6, 7, 8, 11, 12, 13, 14] (i := 5) (oi := ⟨_, _, _, _, _, _⟩) (v := ?_) (by simp) (by kernel_rfl) rfl (by kernel_rfl) (by kernel_rfl) (by kernel_rfl) (fun _ _ _ h => h) (Or.inl ⟨by rfl, ?_⟩) (by assumption) ?_
  rotate_left
  · (intro w hSw; (try dsimp only at hSw); go_simp; try with_reducible rfl)
  try simp only [Act.put, List.setIfInBounds_toArray, List.set_cons_zero, List.set_cons_succ]
  refine wpAnyS_take [10, 11, 12, 13, 14] (i := 9) (oi := ⟨_, _, _, _, _, _⟩) (v := ?_) (by simp) (by kernel_rfl) rfl (by kernel_rfl) (by kernel_rfl) (by kernel_rfl) (fun _ _ _ h => h) (Or.inl ⟨by rfl, ?_⟩) (by assumption) ?_
  rotate_left
  · (intro w hSw; (try dsimp only at hSw); go_simp; try with_reducible rfl)
  try simp only [Act.put, List.setIfInBounds_toArray, List.set_cons_zero, List.set_cons_succ]
  refine wpAnyS_take [11, 12, 13, 14] (i := 10) (oi := ⟨_, _, _, _, _, _⟩) (v := .agg (u8a c.hash)) (by simp) (by kernel_rfl) rfl (by kernel_rfl) (by kernel_rfl) (by kernel_rfl) (fun _ _ _ h => h) (yieldsIf_load_mid rfl 71 (.tmp 21) rfl B 1 rfl (u8l c.hash) _ (fun Z hZ => com_range hZ.2.2) Tryz.underlying71 rfl (by rw [u8l_len, HC.out]; exact hash_size)) (by assumption) ?_
  try simp only [Act.put, List.setIfInBounds_toArray, List.set_cons_zero, List.set_cons_succ]
  refine wpAnyS_one (i := 2) (oi := ⟨_, _, _, _, _, _⟩) rfl (by kernel_rfl) (fun K hK => ?_)
  go_simp
  go_at_call 85
  (with_reducible refine (m1.out _ ?_).mono ?_)
  · exact HT.out.below hBd
  rintro e w1 ⟨rfl, hb1⟩
  (try go_wp2_with fail)
  refine hK.out _ _ ?_ (fun hHeld2 => ?_)
  · exact com_b hb1 hHeld
  clear hK K
  try simp only [Act.put, List.setIfInBounds_toArray, List.set_cons_zero, List.set_cons_succ]
  refine wpAnyS_take [4, 7, 8, 12, 13, 14] (i := 3) (oi := ⟨_, _, _, _, _, _⟩) (v := ?_) (by simp) (by kernel_rfl) rfl (by kernel_rfl) (by kernel_rfl) (by kernel_rfl) (fun _ _ _ h => h) (Or.inl ⟨by rfl, ?_⟩) (by assumption) ?_
  rotate_left
  · (intro w hSw; (try dsimp only at hSw); go_simp; try with_reducible rfl)
  try simp only [Act.put, List.setIfInBounds_toArray, List.set_cons_zero, List.set_cons_succ]
  refine wpAnyS_take [7, 8, 12, 13, 14] (i := 4) (oi := ⟨_, _, _, _, _, _⟩) (v := ?_) (by simp) (by kernel_rfl) rfl (by kernel_rfl) (by kernel_rfl) (by kernel_rfl) (fun _ _ _ h => h) (Or.inl ⟨by rfl, ?_⟩) (by assumption) ?_
  rotate_left
  · (intro w hSw; (try dsimp only at hSw); go_simp; try with_reducible rfl)
  try simp only [Act.put, List.setIfInBounds_toArray, List.set_cons_zero, List.set_cons_succ]
  refine wpAnyS_one (i := 6) (oi := ⟨_, _, _, _, _, _⟩) rfl (by kernel_rfl) (fun K hK => ?_)
  go_simp
  go_at_call 85
  (with_reducible refine (m2.out _ ?_).mono ?_)
  · exact HT.out.below (below_then hBd hb1)
  rintro e w2 ⟨rfl, hb2⟩
  (try go_wp2_with fail)
  refine hK.out _ _ ?_ (fun hHeld6 => ?_)
  · exact com_b hb2 hHeld2
  clear hK K
  try simp only [Act.put, List.setIfInBounds_toArray, List.set_cons_zero, List.set_cons_succ]
  refine wpAnyS_take [8, 12, 13, 14] (i := 7) (oi := ⟨_, _, _, _, _, _⟩) (v := ?_) (by simp) (by kernel_rfl) rfl (by kernel_rfl) (by kernel_rfl) (by kernel_rfl) (fun _ _ _ h => h) (Or.inl ⟨by rfl, ?_⟩) (by assumption) ?_
  rotate_left
  · (intro w hSw; (try dsimp only at hSw); go_simp; try with_reducible rfl)
  try simp only [Act.put, List.setIfInBounds_toArray, List.set_cons_zero, List.set_cons_succ]
  refine wpAnyS_take [12, 13, 14] (i := 8) (oi := ⟨_, _, _, _, _, _⟩) (v := ?_) (by simp) (by kernel_rfl) rfl (by kernel_rfl) (by kernel_rfl) (by kernel_rfl) (fun _ _ _ h => h) (Or.inl ⟨by rfl, ?_⟩) (by assumption) ?_
  rotate_left
  · (intro w hSw; (try dsimp only at hSw); go_simp; try with_reducible rfl)
  try simp only [Act.put, List.setIfInBounds_toArray, List.set_cons_zero, List.set_cons_succ]
  refine wpAnyS_one (i := 11) (oi := ⟨_, _, _, _, _, _⟩) rfl (by kernel_rfl) (fun K hK => ?_)
  go_simp
  go_at_call 114
  (with_reducible refine (m3.out _).mono ?_)
  rintro e w3 ⟨rfl, hb3⟩
  (try go_wp2_with fail)
  refine hK.out _ _ ?_ (fun hHeld11 => ?_)
  · exact com_b hb3 hHeld6
  clear hK K
  try simp only [Act.put, List.setIfInBounds_toArray, List.set_cons_zero, List.set_cons_succ]
  refine wpAnyS_take [13, 14] (i := 12) (oi := ⟨_, _, _, _, _, _⟩) (v := ?_) (by simp) (by kernel_rfl) rfl (by kernel_rfl) (by kernel_rfl) (by kernel_rfl) (fun _ _ _ h => h) (Or.inl ⟨by rfl, ?_⟩) (by assumption) ?_
  rotate_left
  · (intro w hSw; (try dsimp only at hSw); go_simp; try with_reducible rfl)
  try simp only [Act.put, List.setIfInBounds_toArray, List.set_cons_zero, List.set_cons_succ]
  refine wpAnyS_call (k := 13) (ok := ⟨_, _, _, _, _, _⟩) rfl (by kernel_rfl) (by kernel_rfl) (fun K hK => ?_)
  go_simp
  go_at_call 38
  (with_reducible refine (m4.out _ ?_).mono ?_)
  · exact HT.out.below (below_then (below_then (below_then hBd hb1) hb2) hb3)
  rintro e w4 ⟨rfl, hb4⟩
  (try go_wp2_with fail)
  refine hK.out _ _ ?_
  clear hK K
  try simp only [Act.put, List.setIfInBounds_toArray, List.set_cons_zero, List.set_cons_succ]
  refine wpAny_take (i := 14) (oi := ⟨_, _, _, _, _, _⟩) (v := ?_) rfl (by kernel_rfl) (by kernel_rfl) (by kernel_rfl) (fun _ _ _ h => h) (Or.inl ⟨by rfl, ?_⟩) ?_
  rotate_left
  · (intro w; go_simp; try with_reducible rfl)
  try simp only [Act.put, List.setIfInBounds_toArray, List.set_cons_zero, List.set_cons_succ]
  refine wpAny_done (by kernel_rfl) ?_ _
  have hBz := below_then (below_then (below_then (below_then hBd hb1) hb2) hb3) hb4
  go_wp2_with fail
  refine (m5.out _).mono ?_
  rintro e w5 ⟨rfl, hb⟩
  replace hBz := below_then hBz hb
  clear hb
  go_wp2_with fail
  refine (m6.out _ ?_).mono ?_
  · exact HT.out.below hBz
  rintro e w6 ⟨rfl, hb⟩
  replace hBz := below_then hBz hb
  clear hb
  go_wp2_with fail
  refine (m7.out _ ?_).mono ?_
  · exact HT.out.below hBz
  rintro e w7 ⟨rfl, hb⟩
  replace hBz := below_then hBz hb
  clear hb
  go_wp2_with fail
  go_ret
  exact ⟨rfl, hBz⟩

set_option maxRecDepth 100000 in
set_option maxHeartbeats 2000000 in
theorem rpad_q (c : Com) (round : Int) (sq n : Nat) (hc : c.hash.length = 32) (h1 : I64 c.who) (h2 : I64 round) (hsq : sq ≤ 1048576) (hn : n ≤ 300) :
    Ret 109 #[.agg (comA c), .int .i64 round, .int .i64 (sq : Int), .int .i64 (n : Int)] (.string (strB (padL c.who round c.hash sq n))) := by
  intro w
  have m1 := Lib.hid (Decimal_q c.who h1)
  have m2 := Lib.hid (Decimal_q round h2)
  have m3 := Lib.hid (rText_h c.hash hc)
  have s1 := decIS_size h1
  have s2 := decIS_size h2
  have s3 : (strB (hexL c.hash)).size = 64 := by rw [strB_size, hexL_len, hc]
  have m4 := Lib.hid (rStart_q (boxB (decIS c.who) (decIS round) (strB (hexL c.hash))) (by rw [boxB_size]; omega))
  rw [boxB_list] at m4
  obtain ⟨V, hV⟩ : ∃ V, V = startN (boxL c.who round c.hash) := ⟨_, rfl⟩
  rw [← hV] at m4
  have hVl : V < modN := by rw [hV]; exact mod_lt _
  have m5 := Lib.hid ((rRun_yes (natS V) sq (Nat.le_trans (natS_lt_mod hVl) (by omega)) hsq).of (by rw [sval_natS]))
  obtain ⟨E, hE⟩ : ∃ E, E = ranN V sq := ⟨_, rfl⟩
  have hEl : E < modN := by rw [hE]; exact ranN_lt _ _
  rw [← hE] at m5
  have hds : (decS E).size ≤ 1201 := by have := decS_len (a := natS E) (Nat.le_trans (natS_lt_mod hEl) (by omega)); rwa [sval_natS] at this
  have m6 : Hid (Ret 41 #[.string (natS E)] (.string (decS E))) := Lib.hid (fun W => by
    have := rText (natS E) W (Nat.le_trans (natS_lt_mod hEl) (by omega))
    rwa [sval_natS] at this)
  have m7 := Lib.hid (rStream_q (padB (decS E)) n (by rw [padB_size]; omega) hn)
  have hp : streamL (padB (decS E)).data.toList n = padL c.who round c.hash sq n := by rw [padB_list, hE, hV]; rfl
  rw [hp] at m7
  unfold padB at m7
  unfold boxB at m4
  generalize padL c.who round c.hash sq n = out at m7 ⊢
  have HC := Lib.hid hc
  clear hp hV hE hc
  generalize decIS round = d2 at *
  generalize decIS c.who = d1 at *
  generalize decS E = d4 at *
  have hxs : (strB (hexL c.hash)).size ≤ 64 := by omega
  clear s3
  generalize strB (hexL c.hash) = d3 at *
  have z1 : ¬ 9223372036854775807 < 4 + d1.size := by omega
  have z2 : ¬ 9223372036854775807 < 4 + d1.size + 1 := by omega
  have z3 : ¬ 9223372036854775807 < 4 + d1.size + 1 + d2.size := by omega
  have z4 : ¬ 9223372036854775807 < 4 + d1.size + 1 + d2.size + 1 := by omega
  have z5 : ¬ 9223372036854775807 < 4 + d1.size + 1 + d2.size + 1 + d3.size := by omega
  have z6 : ¬ 9223372036854775807 < 4 + d4.size := by omega
  go_enter Tryz.func109, Tryz.ntmps109
  go_upto_region 1 with fail
  refine nameOne (comA c) rfl ?_
  intro w0 k0 hB
  obtain ⟨B, hBe⟩ : ∃ B, B = w.heap.size := ⟨_, rfl⟩
  rw [← hBe] at k0 ⊢
  clear hBe
  have hBd := hB.drew
  have k0d : Blk w0.drew B 73 (comA c) := k0
  refine region_here (fun Z : World => Z.cell? ⟨B, 0, none⟩ = some (.int .i64 c.who) ∧ Z.cell? ⟨B, 33, none⟩ = some (.string (strB c.box)) ∧ Blk Z B 73 (comA c)) 13 (by kernel_rfl) ⟨k0d.cell 0, (k0d.cell 33).trans (com_box HC.out), k0d⟩ (fun hHeld => ?_)
  refine wpAnyS_take [1, 2, 3, 4, 6, 7, 8, 11, 12, 13, 14] (i := 0) (oi := ⟨_, _, _, _, _, _⟩) (v := ?_) (by simp) (by kernel_rfl) rfl (by kernel_rfl) (by kernel_rfl) (by kernel_rfl) (fun _ _ _ h => h) (Or.inl ⟨by rfl, ?_⟩) (by assumption) ?_
  rotate_left
  · (intro w hSw; (try dsimp only at hSw); go_simp; try with_reducible rfl)
  try simp only [Act.put, List.setIfInBounds_toArray, List.set_cons_zero, List.set_cons_succ]
  refine wpAnyS_take [2, 3, 4, 6, 7, 8, 11, 12, 13, 14] (i := 1) (oi := ⟨_, _, _, _, _, _⟩) (v := ?_) (by simp) (by kernel_rfl) rfl (by kernel_rfl) (by kernel_rfl) (by kernel_rfl) (fun _ _ _ h => h) (Or.inl ⟨by rfl, ?_⟩) (by assumption) ?_
  rotate_left
  · (intro w hSw; (try dsimp only at hSw); go_simp; try with_reducible rfl)
  try simp only [Act.put, List.setIfInBounds_toArray, List.set_cons_zero, List.set_cons_succ]
  refine wpAnyS_take [6, 7, 8, 11, 12, 13, 14] (i := 5) (oi := ⟨_, _, _, _, _, _⟩) (v := ?_) (by simp) (by kernel_rfl) rfl (by kernel_rfl) (by kernel_rfl) (by kernel_rfl) (fun _ _ _ h => h) (Or.inl ⟨by rfl, ?_⟩) (by assumption) ?_
  rotate_left
  · (intro w hSw; (try dsimp only at hSw); go_simp; try with_reducible rfl)
  try simp only [Act.put, List.setIfInBounds_toArray, List.set_cons_zero, List.set_cons_succ]
  refine wpAnyS_take [10, 11, 12, 13, 14] (i := 9) (oi := ⟨_, _, _, _, _, _⟩) (v := ?_) (by simp) (by kernel_rfl) rfl (by kernel_rfl) (by kernel_rfl) (by kernel_rfl) (fun _ _ _ h => h) (Or.inl ⟨by rfl, ?_⟩) (by assumption) ?_
  rotate_left
  · (intro w hSw; (try dsimp only at hSw); go_simp; try with_reducible rfl)
  try simp only [Act.put, List.setIfInBounds_toArray, List.set_cons_zero, List.set_cons_succ]
  refine wpAnyS_take [11, 12, 13, 14] (i := 10) (oi := ⟨_, _, _, _, _, _⟩) (v := .agg (u8a c.hash)) (by simp) (by kernel_rfl) rfl (by kernel_rfl) (by kernel_rfl) (by kernel_rfl) (fun _ _ _ h => h) (yieldsIf_load_mid rfl 71 (.tmp 21) rfl B 1 rfl (u8l c.hash) _ (fun Z hZ => com_range hZ.2.2) Tryz.underlying71 rfl (by rw [u8l_len, HC.out]; exact hash_size)) (by assumption) ?_
  try simp only [Act.put, List.setIfInBounds_toArray, List.set_cons_zero, List.set_cons_succ]
  refine wpAnyS_one (i := 2) (oi := ⟨_, _, _, _, _, _⟩) rfl (by kernel_rfl) (fun K hK => ?_)
  go_simp
  go_at_call 110
  (with_reducible refine (m1.out _).mono ?_)
  rintro e w1 ⟨rfl, hb1⟩
  (try go_wp2_with fail)
  refine hK.out _ _ ?_ (fun hHeld2 => ?_)
  · exact com_b hb1 hHeld
  clear hK K
  try simp only [Act.put, List.setIfInBounds_toArray, List.set_cons_zero, List.set_cons_succ]
  refine wpAnyS_take [4, 7, 8, 12, 13, 14] (i := 3) (oi := ⟨_, _, _, _, _, _⟩) (v := ?_) (by simp) (by kernel_rfl) rfl (by kernel_rfl) (by kernel_rfl) (by kernel_rfl) (fun _ _ _ h => h) (Or.inl ⟨by rfl, ?_⟩) (by assumption) ?_
  rotate_left
  · (intro w hSw; (try dsimp only at hSw); go_simp; try with_reducible rfl)
  try simp only [Act.put, List.setIfInBounds_toArray, List.set_cons_zero, List.set_cons_succ]
  refine wpAnyS_take [7, 8, 12, 13, 14] (i := 4) (oi := ⟨_, _, _, _, _, _⟩) (v := ?_) (by simp) (by kernel_rfl) rfl (by kernel_rfl) (by kernel_rfl) (by kernel_rfl) (fun _ _ _ h => h) (Or.inl ⟨by rfl, ?_⟩) (by assumption) ?_
  rotate_left
  · (intro w hSw; (try dsimp only at hSw); go_simp; try with_reducible rfl)
  try simp only [Act.put, List.setIfInBounds_toArray, List.set_cons_zero, List.set_cons_succ]
  refine wpAnyS_one (i := 6) (oi := ⟨_, _, _, _, _, _⟩) rfl (by kernel_rfl) (fun K hK => ?_)
  go_simp
  go_at_call 110
  (with_reducible refine (m2.out _).mono ?_)
  rintro e w2 ⟨rfl, hb2⟩
  (try go_wp2_with fail)
  refine hK.out _ _ ?_ (fun hHeld6 => ?_)
  · exact com_b hb2 hHeld2
  clear hK K
  try simp only [Act.put, List.setIfInBounds_toArray, List.set_cons_zero, List.set_cons_succ]
  refine wpAnyS_take [8, 12, 13, 14] (i := 7) (oi := ⟨_, _, _, _, _, _⟩) (v := ?_) (by simp) (by kernel_rfl) rfl (by kernel_rfl) (by kernel_rfl) (by kernel_rfl) (fun _ _ _ h => h) (Or.inl ⟨by rfl, ?_⟩) (by assumption) ?_
  rotate_left
  · (intro w hSw; (try dsimp only at hSw); go_simp; try with_reducible rfl)
  try simp only [Act.put, List.setIfInBounds_toArray, List.set_cons_zero, List.set_cons_succ]
  refine wpAnyS_take [12, 13, 14] (i := 8) (oi := ⟨_, _, _, _, _, _⟩) (v := ?_) (by simp) (by kernel_rfl) rfl (by kernel_rfl) (by kernel_rfl) (by kernel_rfl) (fun _ _ _ h => h) (Or.inl ⟨by rfl, ?_⟩) (by assumption) ?_
  rotate_left
  · (intro w hSw; (try dsimp only at hSw); go_simp; try with_reducible rfl)
  try simp only [Act.put, List.setIfInBounds_toArray, List.set_cons_zero, List.set_cons_succ]
  refine wpAnyS_one (i := 11) (oi := ⟨_, _, _, _, _, _⟩) rfl (by kernel_rfl) (fun K hK => ?_)
  go_simp
  go_at_call 103
  (with_reducible refine (m3.out _).mono ?_)
  rintro e w3 ⟨rfl, hb3⟩
  (try go_wp2_with fail)
  refine hK.out _ _ ?_ (fun hHeld11 => ?_)
  · exact com_b hb3 hHeld6
  clear hK K
  try simp only [Act.put, List.setIfInBounds_toArray, List.set_cons_zero, List.set_cons_succ]
  refine wpAnyS_take [13, 14] (i := 12) (oi := ⟨_, _, _, _, _, _⟩) (v := ?_) (by simp) (by kernel_rfl) rfl (by kernel_rfl) (by kernel_rfl) (by kernel_rfl) (fun _ _ _ h => h) (Or.inl ⟨by rfl, ?_⟩) (by assumption) ?_
  rotate_left
  · (intro w hSw; (try dsimp only at hSw); go_simp; try with_reducible rfl)
  try simp only [Act.put, List.setIfInBounds_toArray, List.set_cons_zero, List.set_cons_succ]
  refine wpAnyS_call (k := 13) (ok := ⟨_, _, _, _, _, _⟩) rfl (by kernel_rfl) (by kernel_rfl) (fun K hK => ?_)
  go_simp
  go_at_call 39
  (with_reducible refine (m4.out _).mono ?_)
  rintro e w4 ⟨rfl, hb4⟩
  (try go_wp2_with fail)
  refine hK.out _ _ ?_
  clear hK K
  try simp only [Act.put, List.setIfInBounds_toArray, List.set_cons_zero, List.set_cons_succ]
  refine wpAny_take (i := 14) (oi := ⟨_, _, _, _, _, _⟩) (v := ?_) rfl (by kernel_rfl) (by kernel_rfl) (by kernel_rfl) (fun _ _ _ h => h) (Or.inl ⟨by rfl, ?_⟩) ?_
  rotate_left
  · (intro w; go_simp; try with_reducible rfl)
  try simp only [Act.put, List.setIfInBounds_toArray, List.set_cons_zero, List.set_cons_succ]
  refine wpAny_done (by kernel_rfl) ?_ _
  have hBz := below_then (below_then (below_then (below_then hBd hb1) hb2) hb3) hb4
  go_wp2_with fail
  refine (m5.out _).mono ?_
  rintro e w5 ⟨rfl, hb⟩
  replace hBz := below_then hBz hb
  clear hb
  go_wp2_with fail
  refine (m6.out _).mono ?_
  rintro e w6 ⟨rfl, hb⟩
  replace hBz := below_then hBz hb
  clear hb
  go_wp2_with fail
  refine (m7.out _).mono ?_
  rintro e w7 ⟨rfl, hb⟩
  replace hBz := below_then hBz hb
  clear hb
  go_wp2_with fail
  go_ret
  exact ⟨rfl, hBz⟩

end Go.Proofs.YtebgmlbbilcbbaaGreatDoor
