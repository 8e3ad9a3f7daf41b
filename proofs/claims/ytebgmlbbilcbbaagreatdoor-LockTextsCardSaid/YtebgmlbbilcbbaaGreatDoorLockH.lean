/- Locks: Commit of both. -/
import Derived.Test.YtebgmlbbilcbbaaGreatDoorLockG
namespace Go.Proofs.YtebgmlbbilcbbaaGreatDoor
open Go.RowKit
attribute [local go_sem] Oper.semAt_some

/-- What Commit makes. -/
def comMade (who round : Int) (s : List UInt8) (sq : Nat) : Com := ⟨who, secretH who round s, boxed who round (secretH who round s) sq s⟩
theorem results_com {fn : Func} {p q : Tmp} {c : Com} {tmps : Array Value} {w : World} {g : Nat} {b : Value} (h : fn.results = #[.cell p 73, .tmp q]) (hg : Blk w g 73 (comA c)) (hp : (tmps.getD p undef, tmps.getD q undef) = (.pointer (some ⟨g, 0, none⟩), b)) (hc : c.hash.length = 32) :
    (results fn tmps).run Tryz.prog w = .ok (.tuple #[.agg (comA c), b]) w := by
  obtain ⟨hp1, hp2⟩ := Prod.mk.inj hp
  have hp' : tmps[p]?.getD undef = .pointer (some ⟨g, 0, none⟩) := by simpa using hp1
  have hq' : tmps[q]?.getD undef = b := by simpa using hp2
  simp [results, h, hp', hq', asAddr, run_loadVar_row w g 73 73 (comA c) (0, 0) _ hg Tryz.underlying73 rfl (by rw [comA_size hc]; exact com_size)]

set_option maxRecDepth 100000 in
set_option maxHeartbeats 2000000 in
theorem Commit_no (who round : Int) (s : ByteArray) (sq : Int) (hs : s.size ≤ 9223372036854775807) (h : okSq s.size sq = false) :
    Ret 50 #[.int .i64 who, .int .i64 round, .string s, .int .i64 sq] (.tuple #[.agg (comA comZero), .bool false]) := by
  intro w
  have hd : (100 < s.size ∨ sq < 1) ∨ 1048576 < sq := by
    unfold okSq at h
    have := of_decide_eq_false h
    omega
  clear h
  rcases hd with (hd | hd) | hd
  · have h1 : (100 : Int) < (s.size : Int) := by omega
    clear hd
    go_enter Tryz.func50, Tryz.ntmps50
    go_upto_region 1 with fail
    refine nameOne (comA comZero) rfl ?_
    intro w0 k0 hB
    obtain ⟨B, hBe⟩ : ∃ B, B = w.heap.size := ⟨_, rfl⟩
    rw [← hBe] at k0 ⊢
    have hgB : w.heap.size ≤ B := by omega
    clear hBe
    go_wp2_with (refine wpList_store_rowTo rfl 73 _ _ rfl rfl B (comA comZero) rfl rfl _ _ k0 (by rw [comA_size (c := comZero) rfl]; exact com_size) ((comA_size (c := comZero) rfl).trans (comA_size (c := comZero) rfl).symm) (comA_one _) ?_)
    refine bodyPost_ret (results_com (c := comZero) rfl (k0.rowA _) rfl rfl) rfl ?_
    exact ⟨rfl, below_setRow hB hgB _⟩
  · by_cases h1 : 100 < s.size
    · have h1' : (100 : Int) < (s.size : Int) := by omega
      clear h1
      go_enter Tryz.func50, Tryz.ntmps50
      go_upto_region 1 with fail
      refine nameOne (comA comZero) rfl ?_
      intro w0 k0 hB
      obtain ⟨B, hBe⟩ : ∃ B, B = w.heap.size := ⟨_, rfl⟩
      rw [← hBe] at k0 ⊢
      have hgB : w.heap.size ≤ B := by omega
      clear hBe
      go_wp2_with (refine wpList_store_rowTo rfl 73 _ _ rfl rfl B (comA comZero) rfl rfl _ _ k0 (by rw [comA_size (c := comZero) rfl]; exact com_size) ((comA_size (c := comZero) rfl).trans (comA_size (c := comZero) rfl).symm) (comA_one _) ?_)
      refine bodyPost_ret (results_com (c := comZero) rfl (k0.rowA _) rfl rfl) rfl ?_
      exact ⟨rfl, below_setRow hB hgB _⟩
    · have h1' : ¬ (100 : Int) < (s.size : Int) := by omega
      clear h1
      go_enter Tryz.func50, Tryz.ntmps50
      go_upto_region 1 with fail
      refine nameOne (comA comZero) rfl ?_
      intro w0 k0 hB
      obtain ⟨B, hBe⟩ : ∃ B, B = w.heap.size := ⟨_, rfl⟩
      rw [← hBe] at k0 ⊢
      have hgB : w.heap.size ≤ B := by omega
      clear hBe
      go_wp2_with (refine wpList_store_rowTo rfl 73 _ _ rfl rfl B (comA comZero) rfl rfl _ _ k0 (by rw [comA_size (c := comZero) rfl]; exact com_size) ((comA_size (c := comZero) rfl).trans (comA_size (c := comZero) rfl).symm) (comA_one _) ?_)
      refine bodyPost_ret (results_com (c := comZero) rfl (k0.rowA _) rfl rfl) rfl ?_
      exact ⟨rfl, below_setRow hB hgB _⟩
  · have h2 : ¬ sq < 1 := by omega
    by_cases h1 : 100 < s.size
    · have h1' : (100 : Int) < (s.size : Int) := by omega
      clear h1
      go_enter Tryz.func50, Tryz.ntmps50
      go_upto_region 1 with fail
      refine nameOne (comA comZero) rfl ?_
      intro w0 k0 hB
      obtain ⟨B, hBe⟩ : ∃ B, B = w.heap.size := ⟨_, rfl⟩
      rw [← hBe] at k0 ⊢
      have hgB : w.heap.size ≤ B := by omega
      clear hBe
      go_wp2_with (refine wpList_store_rowTo rfl 73 _ _ rfl rfl B (comA comZero) rfl rfl _ _ k0 (by rw [comA_size (c := comZero) rfl]; exact com_size) ((comA_size (c := comZero) rfl).trans (comA_size (c := comZero) rfl).symm) (comA_one _) ?_)
      refine bodyPost_ret (results_com (c := comZero) rfl (k0.rowA _) rfl rfl) rfl ?_
      exact ⟨rfl, below_setRow hB hgB _⟩
    · have h1' : ¬ (100 : Int) < (s.size : Int) := by omega
      clear h1
      go_enter Tryz.func50, Tryz.ntmps50
      go_upto_region 1 with fail
      refine nameOne (comA comZero) rfl ?_
      intro w0 k0 hB
      obtain ⟨B, hBe⟩ : ∃ B, B = w.heap.size := ⟨_, rfl⟩
      rw [← hBe] at k0 ⊢
      have hgB : w.heap.size ≤ B := by omega
      clear hBe
      go_wp2_with (refine wpList_store_rowTo rfl 73 _ _ rfl rfl B (comA comZero) rfl rfl _ _ k0 (by rw [comA_size (c := comZero) rfl]; exact com_size) ((comA_size (c := comZero) rfl).trans (comA_size (c := comZero) rfl).symm) (comA_one _) ?_)
      refine bodyPost_ret (results_com (c := comZero) rfl (k0.rowA _) rfl rfl) rfl ?_
      exact ⟨rfl, below_setRow hB hgB _⟩

set_option maxRecDepth 100000 in
set_option maxHeartbeats 2000000 in
theorem rCommit_no (who round : Int) (s : ByteArray) (sq : Int) (_hs : s.size ≤ 9223372036854775807) (h : okSq s.size sq = false) :
    Ret 51 #[.int .i64 who, .int .i64 round, .string s, .int .i64 sq] (.tuple #[.agg (comA comZero), .bool false]) := by
  intro w
  have m1 := Lib.hid (right_q s.size sq)
  rw [h] at m1
  clear h
  go_enter Tryz.func51, Tryz.ntmps51
  go_upto_region 1 with fail
  refine nameOne (comA comZero) rfl ?_
  intro w0 k0 hB
  obtain ⟨B, hBe⟩ : ∃ B, B = w.heap.size := ⟨_, rfl⟩
  rw [← hBe] at k0 ⊢
  have hgB : w.heap.size ≤ B := by omega
  clear hBe
  go_wp2_with fail
  refine (m1.out _).mono ?_
  rintro e w1 ⟨rfl, hb⟩
  replace k0 := k0.below hb k0.lt
  replace hB := below_then hB hb
  clear hb
  go_wp2_with (refine wpList_store_rowTo rfl 73 _ _ rfl rfl B (comA comZero) rfl rfl _ _ k0 (by rw [comA_size (c := comZero) rfl]; exact com_size) ((comA_size (c := comZero) rfl).trans (comA_size (c := comZero) rfl).symm) (comA_one _) ?_)
  refine bodyPost_ret (results_com (c := comZero) rfl (k0.rowA _) rfl rfl) rfl ?_
  exact ⟨rfl, below_setRow hB hgB _⟩

set_option maxRecDepth 100000 in
set_option maxHeartbeats 4000000 in
theorem Commit_yes (who round : Int) (s : ByteArray) (sq : Nat) (h1 : I64 who) (h2 : I64 round) (hs : s.size ≤ 100) (h3 : 1 ≤ sq) (h4 : sq ≤ 1048576) :
    RetT 50 #[.int .i64 who, .int .i64 round, .string s, .int .i64 (sq : Int)] (.tuple #[.agg (comA (comMade who round s.data.toList sq)), .bool true]) := by
  intro w hT
  have HT := Lib.hid hT
  clear hT
  obtain ⟨g, hg⟩ : ∃ g, g = secretH who round s.data.toList := ⟨_, rfl⟩
  have hgl : g.length = 32 := by rw [hg]; exact sha_len _
  have HG := Lib.hid hgl
  have m1 := Lib.hid (secretHash_q who round s h1 h2 (by omega))
  rw [← hg] at m1
  have m2 := Lib.hid (pad_q ⟨who, g, []⟩ round sq s.size hgl h1 h2 h4 (by omega))
  obtain ⟨pd, hpd⟩ : ∃ pd, pd = padL who round g sq s.size := ⟨_, rfl⟩
  have hpl : (strB pd).size = s.size := by rw [strB_size, hpd, pad_len]
  have m3 := Lib.hid (combine_q s (strB pd) hpl (by omega))
  obtain ⟨bx, hbx⟩ : ∃ bx, bx = combL s.data.toList (strB pd).data.toList := ⟨_, rfl⟩
  have hmade : comMade who round s.data.toList sq = ⟨who, g, bx⟩ := by
    unfold comMade boxed
    rw [hbx, strB_list, hpd, ← hg, size_len]
  rw [hmade]
  rw [← hbx] at m3
  rw [← hpd] at m2
  have hsz1 : ¬ (100 : Int) < (s.size : Int) := by omega
  have hsq1 : ¬ (sq : Int) < 1 := by omega
  have hsq2 : ¬ (1048576 : Int) < (sq : Int) := by omega
  clear hmade hbx hpd hg hpl hgl
  go_enter Tryz.func50, Tryz.ntmps50
  go_upto_region 1 with fail
  refine nameOne (comA comZero) rfl ?_
  intro w0 k0 hB
  obtain ⟨B, hBe⟩ : ∃ B, B = w.heap.size := ⟨_, rfl⟩
  rw [← hBe] at k0 ⊢
  have hgB : w.heap.size ≤ B := by omega
  clear hBe
  go_wp2_with fail
  refine (m1.out _ ?_).mono ?_
  · exact HT.out.below hB
  rintro e w1 ⟨rfl, hb⟩
  replace k0 := k0.below hb k0.lt
  replace hB := below_then hB hb
  clear hb
  have hne : B ≠ w1.heap.size := by have := k0.lt; omega
  go_upto_region 4 with (first | (refine wpList_buildTo rfl 73 _ rfl _ rfl (comA ⟨who, g, []⟩) (by simp [Act.eval]; exact (com_built2 who g HG.out)) ?_) | (refine wpList_store_rowTo rfl 73 _ _ rfl rfl _ (comA ⟨who, g, []⟩) rfl rfl _ _ (Blk.new _ _ _) (by rw [comA_size (c := ⟨who, g, []⟩) HG.out]; exact com_size) (by rw [comA_size (c := ⟨who, g, []⟩) HG.out]; rfl) (comA_one _) ?_))
  refine nameStored (comA ⟨who, g, []⟩) ?_
  intro w2 k1 hb
  replace k0 := k0.below hb k0.lt
  have hgC : w.heap.size ≤ w1.heap.size := hB.size
  replace hB := below_then hB hb
  clear hb
  generalize w1.heap.size = C at k1 hgC hne ⊢
  go_wp2_with (refine wpList_load_row rfl 73 _ rfl C rfl _ (comA ⟨who, g, []⟩) (0, 0) _ k1 Tryz.underlying73 rfl (by rw [comA_size (c := ⟨who, g, []⟩) HG.out]; exact com_size) ?_)
  refine (m2.out _ ?_).mono ?_
  · exact HT.out.below hB
  rintro e w3 ⟨rfl, hb⟩
  replace k0 := k0.below hb k0.lt
  replace k1 := k1.below hb k1.lt
  replace hB := below_then hB hb
  clear hb
  go_wp2_with fail
  refine (m3.out _).mono ?_
  rintro e w4 ⟨rfl, hb⟩
  replace k0 := k0.below hb k0.lt
  replace k1 := k1.below hb k1.lt
  replace hB := below_then hB hb
  clear hb
  have c33 : w4.cell? ⟨C, 33, none⟩ = some (.string (strB [])) := (k1.cell 33).trans (com_box (c := ⟨who, g, []⟩) HG.out)
  have f33 := k1.frozen 33
  go_upto_region 5 with fail
  have k1s := k1.set_ 33 (.string (strB bx))
  rw [com_set (c := ⟨who, g, []⟩) HG.out] at k1s
  have k0s := kept_set k0 hne 33 (.string (strB bx))
  have hBs := below_set hB (p := ⟨C, 33, none⟩) hgC (.string (strB bx))
  generalize w4.setCell ⟨C, 33, none⟩ (.string (strB bx)) = w5 at k1s k0s hBs ⊢
  go_wp2_with (first | (refine wpList_load_row rfl 73 _ rfl C rfl _ (comA ⟨who, g, bx⟩) (0, 0) _ k1s Tryz.underlying73 rfl (by rw [comA_size (c := ⟨who, g, bx⟩) HG.out]; exact com_size) ?_) | (refine wpList_store_rowTo rfl 73 _ _ rfl rfl B (comA ⟨who, g, bx⟩) rfl rfl _ _ k0s (by rw [comA_size (c := ⟨who, g, bx⟩) HG.out]; exact com_size) ((comA_size (c := comZero) rfl).trans (comA_size (c := ⟨who, g, bx⟩) HG.out).symm) (comA_one _) ?_))
  refine bodyPost_ret (results_com (c := ⟨who, g, bx⟩) rfl (k0s.rowA _) rfl HG.out) rfl ?_
  exact ⟨rfl, below_setRow hBs hgB _⟩

set_option maxRecDepth 100000 in
set_option maxHeartbeats 4000000 in
theorem rCommit_yes (who round : Int) (s : ByteArray) (sq : Nat) (h1 : I64 who) (h2 : I64 round) (hs : s.size ≤ 100) (h3 : 1 ≤ sq) (h4 : sq ≤ 1048576) :
    Ret 51 #[.int .i64 who, .int .i64 round, .string s, .int .i64 (sq : Int)] (.tuple #[.agg (comA (comMade who round s.data.toList sq)), .bool true]) := by
  intro w
  have m0 := Lib.hid (right_q s.size (sq : Int))
  rw [show okSq s.size (sq : Int) = true from decide_eq_true ⟨hs, by omega, by omega⟩] at m0
  obtain ⟨g, hg⟩ : ∃ g, g = secretH who round s.data.toList := ⟨_, rfl⟩
  have hgl : g.length = 32 := by rw [hg]; exact sha_len _
  have HG := Lib.hid hgl
  have m1 := Lib.hid (rHash_q who round s h1 h2 (by omega))
  rw [← hg] at m1
  have m2 := Lib.hid (rpad_q ⟨who, g, []⟩ round sq s.size hgl h1 h2 h4 (by omega))
  obtain ⟨pd, hpd⟩ : ∃ pd, pd = padL who round g sq s.size := ⟨_, rfl⟩
  have hpl : (strB pd).size = s.size := by rw [strB_size, hpd, pad_len]
  have m3 := Lib.hid (combined_q s (strB pd) hpl (by omega))
  obtain ⟨bx, hbx⟩ : ∃ bx, bx = combL s.data.toList (strB pd).data.toList := ⟨_, rfl⟩
  have hmade : comMade who round s.data.toList sq = ⟨who, g, bx⟩ := by
    unfold comMade boxed
    rw [hbx, strB_list, hpd, ← hg, size_len]
  rw [hmade]
  rw [← hbx] at m3
  rw [← hpd] at m2
  have hsz1 : ¬ (100 : Int) < (s.size : Int) := by omega
  have hsq1 : ¬ (sq : Int) < 1 := by omega
  have hsq2 : ¬ (1048576 : Int) < (sq : Int) := by omega
  clear hmade hbx hpd hg hpl hgl
  go_enter Tryz.func51, Tryz.ntmps51
  go_upto_region 1 with fail
  refine nameOne (comA comZero) rfl ?_
  intro w0 k0 hB
  obtain ⟨B, hBe⟩ : ∃ B, B = w.heap.size := ⟨_, rfl⟩
  rw [← hBe] at k0 ⊢
  have hgB : w.heap.size ≤ B := by omega
  clear hBe
  go_wp2_with fail
  refine (m0.out _).mono ?_
  rintro e w1 ⟨rfl, hb⟩
  replace k0 := k0.below hb k0.lt
  replace hB := below_then hB hb
  clear hb
  go_wp2_with fail
  refine (m1.out _).mono ?_
  rintro e w1 ⟨rfl, hb⟩
  replace k0 := k0.below hb k0.lt
  replace hB := below_then hB hb
  clear hb
  have hne : B ≠ w1.heap.size := by have := k0.lt; omega
  go_upto_region 4 with (first | (refine wpList_buildTo rfl 73 _ rfl _ rfl (comA ⟨who, g, []⟩) (by simp [Act.eval]; exact (com_built2 who g HG.out)) ?_) | (refine wpList_store_rowTo rfl 73 _ _ rfl rfl _ (comA ⟨who, g, []⟩) rfl rfl _ _ (Blk.new _ _ _) (by rw [comA_size (c := ⟨who, g, []⟩) HG.out]; exact com_size) (by rw [comA_size (c := ⟨who, g, []⟩) HG.out]; rfl) (comA_one _) ?_))
  refine nameStored (comA ⟨who, g, []⟩) ?_
  intro w2 k1 hb
  replace k0 := k0.below hb k0.lt
  have hgC : w.heap.size ≤ w1.heap.size := hB.size
  replace hB := below_then hB hb
  clear hb
  generalize w1.heap.size = C at k1 hgC hne ⊢
  go_wp2_with (refine wpList_load_row rfl 73 _ rfl C rfl _ (comA ⟨who, g, []⟩) (0, 0) _ k1 Tryz.underlying73 rfl (by rw [comA_size (c := ⟨who, g, []⟩) HG.out]; exact com_size) ?_)
  refine (m2.out _).mono ?_
  rintro e w3 ⟨rfl, hb⟩
  replace k0 := k0.below hb k0.lt
  replace k1 := k1.below hb k1.lt
  replace hB := below_then hB hb
  clear hb
  go_wp2_with fail
  refine (m3.out _).mono ?_
  rintro e w4 ⟨rfl, hb⟩
  replace k0 := k0.below hb k0.lt
  replace k1 := k1.below hb k1.lt
  replace hB := below_then hB hb
  clear hb
  have c33 : w4.cell? ⟨C, 33, none⟩ = some (.string (strB [])) := (k1.cell 33).trans (com_box (c := ⟨who, g, []⟩) HG.out)
  have f33 := k1.frozen 33
  go_upto_region 5 with fail
  have k1s := k1.set_ 33 (.string (strB bx))
  rw [com_set (c := ⟨who, g, []⟩) HG.out] at k1s
  have k0s := kept_set k0 hne 33 (.string (strB bx))
  have hBs := below_set hB (p := ⟨C, 33, none⟩) hgC (.string (strB bx))
  generalize w4.setCell ⟨C, 33, none⟩ (.string (strB bx)) = w5 at k1s k0s hBs ⊢
  go_wp2_with (first | (refine wpList_load_row rfl 73 _ rfl C rfl _ (comA ⟨who, g, bx⟩) (0, 0) _ k1s Tryz.underlying73 rfl (by rw [comA_size (c := ⟨who, g, bx⟩) HG.out]; exact com_size) ?_) | (refine wpList_store_rowTo rfl 73 _ _ rfl rfl B (comA ⟨who, g, bx⟩) rfl rfl _ _ k0s (by rw [comA_size (c := ⟨who, g, bx⟩) HG.out]; exact com_size) ((comA_size (c := comZero) rfl).trans (comA_size (c := ⟨who, g, bx⟩) HG.out).symm) (comA_one _) ?_))
  refine bodyPost_ret (results_com (c := ⟨who, g, bx⟩) rfl (k0s.rowA _) rfl HG.out) rfl ?_
  exact ⟨rfl, below_setRow hBs hgB _⟩

end Go.Proofs.YtebgmlbbilcbbaaGreatDoor
