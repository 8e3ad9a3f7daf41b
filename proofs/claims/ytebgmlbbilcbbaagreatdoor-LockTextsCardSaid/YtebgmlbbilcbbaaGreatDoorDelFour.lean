/- Joined by a program: DelJ, DelK, DelL. -/
import Derived.Test.YtebgmlbbilcbbaaGreatDoorDelI
namespace Go.Proofs.YtebgmlbbilcbbaaGreatDoor
open Go.RowKit

theorem tOf (k : Nat) (s : ByteArray) (h : natS k = s) (hk : k ≤ 1000) : Ret 73 #[.int .i64 (k : Int)] (.string s) := fun W => h ▸ rOf k W (by omega)
theorem tOf2 : Ret 73 #[.int .i64 2] (.string ⟨#[2]⟩) := fun W => rOf 2 W (by omega)
theorem tOf4 : Ret 73 #[.int .i64 4] (.string ⟨#[4]⟩) := fun W => rOf 4 W (by omega)
theorem tOf256 : Ret 73 #[.int .i64 256] (.string ⟨#[1, 0]⟩) := fun W => rOf 256 W (by omega)
theorem tOf16 : Ret 73 #[.int .i64 16] (.string ⟨#[16]⟩) := fun W => rOf 16 W (by omega)
theorem tOf5 : Ret 73 #[.int .i64 5] (.string ⟨#[5]⟩) := fun W => rOf 5 W (by omega)
theorem tOf3 : Ret 73 #[.int .i64 3] (.string ⟨#[3]⟩) := fun W => rOf 3 W (by omega)
theorem tOf7 : Ret 73 #[.int .i64 7] (.string ⟨#[7]⟩) := fun W => rOf 7 W (by omega)
theorem tOf8 : Ret 73 #[.int .i64 8] (.string ⟨#[8]⟩) := fun W => rOf 8 W (by omega)
theorem tOf9 : Ret 73 #[.int .i64 9] (.string ⟨#[9]⟩) := fun W => rOf 9 W (by omega)
theorem tOf81 : Ret 73 #[.int .i64 81] (.string ⟨#[81]⟩) := fun W => rOf 81 W (by omega)

theorem tRun0 : Ret 36 #[.string ⟨#[2]⟩, .int .i64 0] (.tuple #[.string ⟨#[2]⟩, .bool true]) := (Run_yes ⟨#[2]⟩ 0 (by decide) (by omega)).of (by kernel_rfl)
theorem tRun1 : Ret 36 #[.string ⟨#[2]⟩, .int .i64 1] (.tuple #[.string ⟨#[4]⟩, .bool true]) := (Run_yes ⟨#[2]⟩ 1 (by decide) (by omega)).of (by kernel_rfl)
theorem tRun3 : Ret 36 #[.string ⟨#[2]⟩, .int .i64 3] (.tuple #[.string ⟨#[1, 0]⟩, .bool true]) := (Run_yes ⟨#[2]⟩ 3 (by decide) (by omega)).of (by kernel_rfl)
theorem tRunM : Ret 36 #[.string ⟨#[2]⟩, .int .i64 (-1)] (.tuple #[.string ⟨#[]⟩, .bool false]) := Run_no _ _ (by omega)

theorem tProve (W : World) (hT : Tabs W) : Calls Tryz.prog 26 #[.string ⟨#[2]⟩, .int .i64 2] W fun e w' => (∃ (A : Option Addr) (c : Nat), e = .returned (.tuple #[.string ⟨#[16]⟩, .slice A 1 c, .bool true]) ∧ NDg w' A 1 c [⟨#[4]⟩]) ∧ Below W.heap.size W w' := by
  refine (Prove_yes ⟨#[2]⟩ 1 (by decide) (by omega) W hT).mono ?_
  rintro e w' ⟨A, c, ms, he, hm, hl, _, hf, hb⟩
  refine ⟨⟨A, c, he.trans (congrArg (fun s => Ending.returned (.tuple #[.string s, .slice A 1 c, .bool true])) (show natS (ranN (sval ⟨#[2]⟩) (2 ^ 1)) = ⟨#[16]⟩ by kernel_rfl)), ?_⟩, hb⟩
  have h1 := hf (by omega)
  match ms, hl, h1 with
  | [m], _, h1 =>
    have h2 : m = ranN (sval ⟨#[2]⟩) (2 ^ 1 / 2) := Option.some.inj h1
    have h3 : natS m = ⟨#[4]⟩ := by rw [h2]; kernel_rfl
    rw [List.map_cons, List.map_nil, h3] at hm
    exact hm

theorem vYes : verN 1 ⟨#[2]⟩ ⟨#[16]⟩ [⟨#[4]⟩] = true := by decide +kernel
theorem vNo : verN 1 ⟨#[2]⟩ ⟨#[16]⟩ [⟨#[5]⟩] = false := by decide +kernel
theorem tVerY (A : Option Addr) (c : Nat) (W : World) (hT : Tabs W) (h : NDg W A 1 c [⟨#[4]⟩]) : Calls Tryz.prog 28 #[.string ⟨#[2]⟩, .string ⟨#[16]⟩, .int .i64 2, .slice A 1 c] W fun e w' => e = .returned (.bool true) ∧ Below W.heap.size W w' := by
  have := Verify_yes ⟨#[2]⟩ ⟨#[16]⟩ 1 (by omega) A 1 c [⟨#[4]⟩] (by decide) (by decide) (by intro m hm; rw [List.mem_singleton.1 hm]; decide) (by omega) W hT h
  rw [vYes] at this
  exact this
theorem tVerN (A : Option Addr) (c : Nat) (W : World) (hT : Tabs W) (h : NDg W A 1 c [⟨#[5]⟩]) : Calls Tryz.prog 28 #[.string ⟨#[2]⟩, .string ⟨#[16]⟩, .int .i64 2, .slice A 1 c] W fun e w' => e = .returned (.bool false) ∧ Below W.heap.size W w' := by
  have := Verify_yes ⟨#[2]⟩ ⟨#[16]⟩ 1 (by omega) A 1 c [⟨#[5]⟩] (by decide) (by decide) (by intro m hm; rw [List.mem_singleton.1 hm]; decide) (by omega) W hT h
  rw [vNo] at this
  exact this
theorem tVerB (A : Option Addr) (n c : Nat) (W : World) : Calls Tryz.prog 28 #[.string ⟨#[2]⟩, .string ⟨#[16]⟩, .int .i64 3, .slice A n c] W fun e w' => e = .returned (.bool false) ∧ Below W.heap.size W w' := by
  refine Verify_bad 3 (fun n hn => ?_) ⟨#[2]⟩ ⟨#[16]⟩ A _ c W
  match n with
  | 0 => decide
  | 1 => decide
  | n + 2 => rw [Nat.pow_succ, Nat.pow_succ]; omega

theorem tNext7 : Ret 24 #[dispV 0 4 ⟨#[]⟩ ⟨#[]⟩ ⟨#[]⟩, .string ⟨#[7]⟩, .string ⟨#[7]⟩] (dispV 2 4 ⟨#[7]⟩ ⟨#[]⟩ ⟨#[]⟩) := (Next_in 0 4 _ _ _ _ _ (by omega) (by omega) (by omega) (by decide) (by decide)).of (by rw [if_pos rfl]; rfl)
theorem tNext8 : Ret 24 #[dispV 0 4 ⟨#[]⟩ ⟨#[]⟩ ⟨#[]⟩, .string ⟨#[7]⟩, .string ⟨#[8]⟩] (dispV 0 2 ⟨#[]⟩ ⟨#[7]⟩ ⟨#[8]⟩) := (Next_in 0 4 _ _ _ _ _ (by omega) (by omega) (by omega) (by decide) (by decide)).of (by rw [if_neg (by decide)]; rfl)
theorem tDec2 : Ret 25 #[dispV 0 1 ⟨#[3]⟩ ⟨#[9]⟩ ⟨#[8]⟩] (.int .i64 2) := (Decide_in 0 1 _ _ _ (by omega) (by omega) (by omega) (by decide) (by decide) (by decide)).of (by rw [show decideN ⟨#[3]⟩ ⟨#[9]⟩ ⟨#[8]⟩ = 2 by decide +kernel])
theorem tDec1 : Ret 25 #[dispV 0 1 ⟨#[3]⟩ ⟨#[8]⟩ ⟨#[9]⟩] (.int .i64 1) := (Decide_in 0 1 _ _ _ (by omega) (by omega) (by omega) (by decide) (by decide) (by decide)).of (by rw [show decideN ⟨#[3]⟩ ⟨#[8]⟩ ⟨#[9]⟩ = 1 by decide +kernel])
theorem tDec3 : Ret 25 #[dispV 0 1 ⟨#[3]⟩ ⟨#[7]⟩ ⟨#[8]⟩] (.int .i64 3) := (Decide_in 0 1 _ _ _ (by omega) (by omega) (by omega) (by decide) (by decide) (by decide)).of (by rw [show decideN ⟨#[3]⟩ ⟨#[7]⟩ ⟨#[8]⟩ = 3 by decide +kernel])

/-- Powers of 3 as strings. -/
def three (i : Nat) : ByteArray := natS (ranN 3 i)
theorem three_next (i : Nat) : Ret 40 #[.string (three i)] (.string (three (i + 1))) := (Square_q _ (Nat.le_trans (ran_size _ _) (by omega))).of (by unfold three; rw [ran_step])
theorem tNew (W : World) : Calls Tryz.prog 32 #[.string ⟨#[3]⟩, .int .i64 2] W fun e w' => ∃ g, e = .returned (.pointer (some ⟨g, 0, none⟩)) ∧ W.heap.size ≤ g ∧ Blk w' g 46 (workA (three 0) 0 2) ∧ Below W.heap.size W w' := New_yes ⟨#[3]⟩ 2 (by decide) (by omega) W
theorem tStep1 (g : Nat) (W : World) (hk : Blk W g 46 (workA (three 0) 0 2)) : Calls Tryz.prog 30 #[.pointer (some ⟨g, 0, none⟩), .int .i64 1] W fun e w' => e = .returned (.bool false) ∧ Blk w' g 46 (workA (three 1) 1 2) ∧ W.grownBy w' (some g) :=
  Step_any g three 0 2 1 (by omega) (by omega) (by omega) (fun i _ _ => three_next i) W hk
theorem tStep5 (g : Nat) (W : World) (hk : Blk W g 46 (workA (three 1) 1 2)) : Calls Tryz.prog 30 #[.pointer (some ⟨g, 0, none⟩), .int .i64 5] W fun e w' => e = .returned (.bool true) ∧ Blk w' g 46 (workA (three 2) 2 2) ∧ W.grownBy w' (some g) :=
  Step_any g three 1 2 5 (by omega) (by omega) (by omega) (fun i _ _ => three_next i) W hk
theorem dec_one {n : Nat} (h : n < 10) : decS n = ⟨#[UInt8.ofNat (48 + n)]⟩ := by unfold decS; rw [Lib.decDigits_one h]
theorem tSave (g : Nat) (W : World) (hT : Tabs W) (hk : Blk W g 46 (workA (three 1) 1 2)) : Calls Tryz.prog 31 #[.pointer (some ⟨g, 0, none⟩)] W fun e w' => e = .returned (.string ⟨#[119, 111, 114, 107, 32, 49, 32, 50, 32, 57]⟩) ∧ Below W.heap.size W w' := by
  have := Save_yes g (three 1) 1 2 (by decide) (by omega) (by omega) W hT hk
  have e : saveS 1 2 (sval (three 1)) = ⟨#[119, 111, 114, 107, 32, 49, 32, 50, 32, 57]⟩ := by
    have h3 : sval (three 1) = 9 := by unfold three; rw [sval_natS]; decide
    unfold saveS
    rw [h3, dec_one (by omega), dec_one (by omega), dec_one (by omega)]
    rfl
  rw [e] at this
  exact this
theorem tEnd (g : Nat) (W : World) (hk : Blk W g 46 (workA (three 2) 2 2)) : Calls Tryz.prog 29 #[.pointer (some ⟨g, 0, none⟩)] W fun e w' => e = .returned (.tuple #[.string ⟨#[81]⟩, .bool true]) ∧ Below W.heap.size W w' := End_yes g (three 2) 2 W hk

end Go.Proofs.YtebgmlbbilcbbaaGreatDoor
namespace Go.Proofs.YtebgmlbbilcbbaaGreatDoor
open Go.RowKit

theorem ndg_one {w : World} {g : Nat} {t : TypeId} {x : ByteArray} (h : Blk w g t #[.string x]) : NDg w (some ⟨g, 0, none⟩) 1 1 [x] := by
  refine ⟨rfl, Nat.le_refl _, fun _ => ⟨g, 0, rfl, fun j y hy => ?_⟩⟩
  match j, hy with
  | 0, hy => obtain rfl := Option.some.inj hy; exact h.cell 0
  | j + 1, hy => simp at hy

theorem tSame (A B : Option Addr) (c d : Nat) (W : World) (hA : NDg W A 1 c [⟨#[4]⟩]) (hB : NDg W B 1 d [⟨#[4]⟩]) : Calls Tryz.prog 70 #[.slice A 1 c, .slice B 1 d] W fun e w' => e = .returned (.bool true) ∧ Below W.heap.size W w' := by
  have := Same_any A B 1 c d (by omega) _ _ W hA hB
  rw [decide_eq_true rfl] at this
  exact this
theorem of_q {k : Int} {s : ByteArray} (h : Ret 73 #[.int .i64 k] (.string s)) : Ret 23 #[.int .i64 k] (.string s) := by
  intro w
  have m1 := Lib.hid h
  clear h
  go_enter Tryz.func23, Tryz.ntmps23
  go_wp2_with fail
  refine (m1.out _).mono ?_
  rintro e w1 ⟨rfl, hb1⟩
  go_wp2_with fail
  go_ret
  exact ⟨rfl, hb1⟩

set_option maxRecDepth 100000 in
set_option maxHeartbeats 2000000 in
theorem sanity10 : RetT 17 #[] (.bool true) := by
  intro w hT
  have HT := Lib.hid hT
  clear hT
  have o2 := Lib.hid (of_q tOf2)
  have o4 := Lib.hid (of_q tOf4)
  have o256 := Lib.hid (of_q tOf256)
  have o16 := Lib.hid (of_q tOf16)
  have o5 := Lib.hid (of_q tOf5)
  have o3 := Lib.hid (of_q tOf3)
  have o7 := Lib.hid (of_q tOf7)
  have o8 := Lib.hid (of_q tOf8)
  have o9 := Lib.hid (of_q tOf9)
  have o81 := Lib.hid (of_q tOf81)
  have u0 := Lib.hid tRun0
  have u1 := Lib.hid tRun1
  have u3 := Lib.hid tRun3
  have um := Lib.hid tRunM
  have n7 : Hid (Ret 24 #[.agg #[.int .i64 0, .int .i64 4, .string ⟨#[]⟩, .string ⟨#[]⟩, .string ⟨#[]⟩], .string ⟨#[7]⟩, .string ⟨#[7]⟩] (.agg #[.int .i64 2, .int .i64 4, .string ⟨#[7]⟩, .string ⟨#[]⟩, .string ⟨#[]⟩])) := Lib.hid tNext7
  have n8 : Hid (Ret 24 #[.agg #[.int .i64 0, .int .i64 4, .string ⟨#[]⟩, .string ⟨#[]⟩, .string ⟨#[]⟩], .string ⟨#[7]⟩, .string ⟨#[8]⟩] (.agg #[.int .i64 0, .int .i64 2, .string ⟨#[]⟩, .string ⟨#[7]⟩, .string ⟨#[8]⟩])) := Lib.hid tNext8
  have d2 : Hid (Ret 25 #[.agg #[.int .i64 0, .int .i64 1, .string ⟨#[3]⟩, .string ⟨#[9]⟩, .string ⟨#[8]⟩]] (.int .i64 2)) := Lib.hid tDec2
  have d1 : Hid (Ret 25 #[.agg #[.int .i64 0, .int .i64 1, .string ⟨#[3]⟩, .string ⟨#[8]⟩, .string ⟨#[9]⟩]] (.int .i64 1)) := Lib.hid tDec1
  have d3 : Hid (Ret 25 #[.agg #[.int .i64 0, .int .i64 1, .string ⟨#[3]⟩, .string ⟨#[7]⟩, .string ⟨#[8]⟩]] (.int .i64 3)) := Lib.hid tDec3
  have v1 := Lib.hid tVerY
  have v2 := Lib.hid tVerN
  have v3 := Lib.hid tVerB
  have k0 := Lib.hid tNew
  have k1 := Lib.hid tStep1
  have k5 := Lib.hid tStep5
  have ks := Lib.hid tSave
  have ke := Lib.hid tEnd
  have sm := Lib.hid tSame
  have heq : ∀ s : ByteArray, (s.toList == s.toList) = true := fun s => by simp
  go_enter Tryz.func17, Tryz.ntmps17
  have hB : Below w.heap.size w w := Below.refl _ _
  go_upto_region 5 with (first
    | (go_at_call 23; (with_reducible refine (o2.out _).mono ?_); rintro e wz ⟨rfl, hb⟩; replace hB := below_then hB hb; clear hb)
    | (go_at_call 36; (with_reducible first | refine (u0.out _).mono ?_ | refine (u1.out _).mono ?_ | refine (u3.out _).mono ?_ | refine (um.out _).mono ?_); rintro e wz ⟨rfl, hb⟩; replace hB := below_then hB hb; clear hb))
  go_upto_region 6 with (first
    | (go_at_call 23; (with_reducible refine (o2.out _).mono ?_); rintro e wz ⟨rfl, hb⟩; replace hB := below_then hB hb; clear hb)
    | (go_at_call 26; (with_reducible refine (tProve _ (HT.out.below hB)).mono ?_); rintro e wz ⟨⟨A, c, rfl, hm⟩, hb⟩; replace hB := below_then hB hb; clear hb))
  go_upto_region 7 with (first
    | (go_at_call 23; (with_reducible first | refine (o2.out _).mono ?_ | refine (o4.out _).mono ?_ | refine (o256.out _).mono ?_ | refine (o16.out _).mono ?_); rintro e wz ⟨rfl, hb⟩; replace hB := below_then hB hb; replace hm := hm.below hb; clear hb)
    | (go_at_call 70; (with_reducible refine (sm.out _ _ _ _ _ ?_ ?_).mono ?_); (exact hm.below (below_al (Below.refl _ _) _)); (exact ndg_one (Blk.new _ _ _)); rintro e wz ⟨rfl, hb⟩; replace hB := below_then (below_al hB _) hb; replace hm := (hm.below (below_al (Below.refl _ _) _)).below hb; clear hb))
  go_upto_region 10 with (first
    | (go_at_call 23; (with_reducible first | refine (o2.out _).mono ?_ | refine (o16.out _).mono ?_ | refine (o5.out _).mono ?_); rintro e wz ⟨rfl, hb⟩; replace hB := below_then hB hb; replace hm := hm.below hb; clear hb)
    | (go_at_call 28; (with_reducible refine (v1.out _ _ _ ?_ ?_).mono ?_); (exact HT.out.below hB); (with_reducible exact hm); rintro e wz ⟨rfl, hb⟩; replace hB := below_then hB hb; replace hm := hm.below hb; clear hb)
    | (go_at_call 28; (with_reducible refine (v2.out _ _ _ ?_ ?_).mono ?_); (exact HT.out.below (below_al hB _)); (exact ndg_one (Blk.new _ _ _)); rintro e wz ⟨rfl, hb⟩; replace hB := below_then (below_al hB _) hb; replace hm := (hm.below (below_al (Below.refl _ _) _)).below hb; clear hb)
    | (go_at_call 28; (with_reducible refine (v3.out _ _ _ _).mono ?_); rintro e wz ⟨rfl, hb⟩; replace hB := below_then hB hb; replace hm := hm.below hb; clear hb))
  clear hm
  go_upto_region 11 with (first
    | (go_at_call 23; (with_reducible first | refine (o3.out _).mono ?_); rintro e wz ⟨rfl, hb⟩; replace hB := below_then hB hb;  clear hb)
    | (go_at_call 32; (with_reducible refine (k0.out _).mono ?_); rintro e wz ⟨g, rfl, hg, hk, hb⟩; replace hg := Nat.le_trans hB.size hg; replace hB := below_then hB hb; clear hb))
  go_upto_region 14 with (first
    | (go_at_call 30; (with_reducible refine (k1.out g _ ?_).mono ?_); (with_reducible exact hk); rintro e wz ⟨rfl, hk2, hg2⟩; replace hB := hB.grown hg2 hB.size (fun k e => by cases e; exact hg); replace hk := hk2; clear hg2 hk2)
    | (go_at_call 30; (with_reducible refine (k5.out g _ ?_).mono ?_); (with_reducible exact hk); rintro e wz ⟨rfl, hk2, hg2⟩; replace hB := hB.grown hg2 hB.size (fun k e => by cases e; exact hg); replace hk := hk2; clear hg2 hk2)
    | (go_at_call 31; (with_reducible refine (ks.out g _ ?_ ?_).mono ?_); (exact HT.out.below hB); (with_reducible exact hk); rintro e wz ⟨rfl, hb⟩; replace hB := below_then hB hb; replace hk := hk.below hb hk.lt; clear hb)
    | (go_at_call 29; (with_reducible refine (ke.out g _ ?_).mono ?_); (with_reducible exact hk); rintro e wz ⟨rfl, hb⟩; replace hB := below_then hB hb; clear hb))
  clear hk hg
  go_upto_region 15 with (first
    | (go_at_call 23; (with_reducible first | refine (o7.out _).mono ?_); rintro e wz ⟨rfl, hb⟩; replace hB := below_then hB hb;  clear hb)
    | (go_at_call 24; (with_reducible refine (n7.out _).mono ?_); rintro e wz ⟨rfl, hb⟩; replace hB := below_then hB hb; clear hb))
  refine name1p ?_
  intro wy j1 hb
  replace hB := below_then hB hb
  clear hb
  generalize wz.heap.size = q1 at j1 ⊢
  go_upto_region 16 with (first
    | (go_at_call 23; (with_reducible first | refine (o7.out _).mono ?_ | refine (o8.out _).mono ?_); rintro e wz ⟨rfl, hb⟩; replace hB := below_then hB hb; replace j1 := j1.below hb j1.lt; clear hb)
    | (go_at_call 24; (with_reducible refine (n8.out _).mono ?_); rintro e wz ⟨rfl, hb⟩; replace hB := below_then hB hb; replace j1 := j1.below hb j1.lt; clear hb))
  refine name1p ?_
  intro wx j2 hb
  replace hB := below_then hB hb
  replace j1 := j1.below hb j1.lt
  clear hb
  generalize wz.heap.size = q2 at j2 ⊢
  replace j1 : Blk wx.drew q1 32 #[.int .i64 2, .int .i64 4, .string ⟨#[7]⟩, .string ⟨#[]⟩, .string ⟨#[]⟩] := j1
  replace j2 : Blk wx.drew q2 32 #[.int .i64 0, .int .i64 2, .string ⟨#[]⟩, .string ⟨#[7]⟩, .string ⟨#[8]⟩] := j2
  replace hB := hB.drew
  go_region_held3 (fun Z : World => Z.cell? ⟨q1, 0, none⟩ = some (.int .i64 2) ∧ Z.cell? ⟨q1, 1, none⟩ = some (.int .i64 4) ∧ Z.cell? ⟨q1, 2, none⟩ = some (.string ⟨#[7]⟩) ∧ Z.cell? ⟨q1, 3, none⟩ = some (.string ⟨#[]⟩) ∧ Z.cell? ⟨q1, 4, none⟩ = some (.string ⟨#[]⟩) ∧ Z.cell? ⟨q2, 0, none⟩ = some (.int .i64 0) ∧ Z.cell? ⟨q2, 1, none⟩ = some (.int .i64 2) ∧ Z.cell? ⟨q2, 2, none⟩ = some (.string ⟨#[]⟩) ∧ Z.cell? ⟨q2, 3, none⟩ = some (.string ⟨#[7]⟩) ∧ Z.cell? ⟨q2, 4, none⟩ = some (.string ⟨#[8]⟩)) (exact ⟨j1.cell 0, j1.cell 1, j1.cell 2, j1.cell 3, j1.cell 4, j2.cell 0, j2.cell 1, j2.cell 2, j2.cell 3, j2.cell 4⟩) (first | (go_at_call 23; (with_reducible first | refine (o81.out _).mono ?_ | refine (o7.out _).mono ?_ | refine (o8.out _).mono ?_); rintro e wz ⟨rfl, hb⟩; replace hB := below_then hB hb; replace j1 := j1.below hb j1.lt; replace j2 := j2.below hb j2.lt; clear hb))
  clear j1 j2
  go_wp2_with (first
    | (go_at_call 23; (with_reducible first | refine (o3.out _).mono ?_ | refine (o9.out _).mono ?_ | refine (o8.out _).mono ?_ | refine (o7.out _).mono ?_); rintro e wz ⟨rfl, hb⟩; replace hB := below_then hB hb; clear hb)
    | (go_at_call 25; (with_reducible first | refine (d2.out _).mono ?_ | refine (d1.out _).mono ?_ | refine (d3.out _).mono ?_); rintro e wz ⟨rfl, hb⟩; replace hB := below_then hB hb; clear hb))
  go_ret
  exact ⟨rfl, hB⟩

end Go.Proofs.YtebgmlbbilcbbaaGreatDoor
namespace Go.Proofs.YtebgmlbbilcbbaaGreatDoor
open Go.RowKit

theorem zStep (g : Nat) (n : Int) (hn : -9223372036854775808 ≤ n ∧ n ≤ 9223372036854775807) (W : World) (hk : Blk W g 46 (workA ⟨#[]⟩ 0 0)) : Calls Tryz.prog 30 #[.pointer (some ⟨g, 0, none⟩), .int .i64 n] W fun e w' => e = .returned (.bool true) ∧ Blk w' g 46 (workA ⟨#[]⟩ 0 0) ∧ W.grownBy w' (some g) := by
  have := Step_any g (fun _ => ⟨#[]⟩) 0 0 n (by omega) (by omega) hn (fun i _ hi => by omega) W hk
  rw [show 0 + min n.toNat (0 - 0) = 0 by omega, decide_eq_true rfl] at this
  exact this
theorem zSave (g : Nat) (W : World) (hT : Tabs W) (hk : Blk W g 46 (workA ⟨#[]⟩ 0 0)) : Calls Tryz.prog 31 #[.pointer (some ⟨g, 0, none⟩)] W fun e w' => e = .returned (.string ⟨#[119, 111, 114, 107, 32, 48, 32, 48, 32, 48]⟩) ∧ Below W.heap.size W w' := by
  have := Save_yes g ⟨#[]⟩ 0 0 (by decide) (by omega) (by omega) W hT hk
  have e : saveS 0 0 (sval ⟨#[]⟩) = ⟨#[119, 111, 114, 107, 32, 48, 32, 48, 32, 48]⟩ := by
    have h3 : sval ⟨#[]⟩ = 0 := by decide
    unfold saveS
    rw [h3, dec_one (by omega)]
    rfl
  rw [e] at this
  exact this
/-- Step that does nothing. -/
theorem nStep (g : Nat) (x : ByteArray) (t : Nat) (ht : t ≤ 1048576) (n : Int) (hn : n = 0 ∨ n = -1) (hx : x.size ≤ 16) (W : World) (hk : Blk W g 46 (workA x 0 t)) : Calls Tryz.prog 30 #[.pointer (some ⟨g, 0, none⟩), .int .i64 n] W fun e w' => e = .returned (.bool (decide (t = 0))) ∧ Blk w' g 46 (workA x 0 t) ∧ W.grownBy w' (some g) := by
  obtain ⟨R, h0, hR⟩ : ∃ R : Nat → ByteArray, R 0 = x ∧ ∀ i, Ret 40 #[.string (R i)] (.string (R (i + 1))) := by
    refine ⟨fun i => Nat.rec x (fun _ y => natS (sval y * sval y % modN)) i, rfl, fun i => ?_⟩
    refine Square_q _ ?_
    cases i with
    | zero => exact Nat.le_trans hx (by omega)
    | succ i => exact Nat.le_trans (natS_mod _) (by omega)
  have := Step_any g R 0 t n (by omega) ht (by omega) (fun i _ _ => hR i) W (by rw [h0]; exact hk)
  rw [show 0 + min n.toNat (t - 0) = 0 by omega, h0, show decide (0 = t) = decide (t = 0) by rw [decide_eq_decide]; omega] at this
  exact this

end Go.Proofs.YtebgmlbbilcbbaaGreatDoor
