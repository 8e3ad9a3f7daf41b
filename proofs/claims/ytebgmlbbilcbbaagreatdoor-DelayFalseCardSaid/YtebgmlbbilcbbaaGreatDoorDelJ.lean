/- What sanity of chapter 10 calls. -/
import Derived.Test.YtebgmlbbilcbbaaGreatDoorDelI
namespace Go.Proofs.YtebgmlbbilcbbaaGreatDoor
open Go.RowKit

theorem tOf (k : Nat) (s : ByteArray) (h : natS k = s) (hk : k ≤ 1000) : Ret 73 #[.int .i64 (k : Int)] (.string s) := fun W => h ▸ rOf k W (by omega)
theorem tOf2 : Ret 73 #[.int .i64 2] (.string ⟨#[2]⟩) := fun W => rOf 2 W (by omega)
theorem tOf4 : Ret 73 #[.int .i64 4] (.string ⟨#[4]⟩) := fun W => rOf 4 W (by omega)
theorem tOf256 : Ret 73 #[.int .i64 256] (.string ⟨#[1, 0]⟩) := fun W => rOf 256 W (by omega)
theorem tOf16 : Ret 73 #[.int .i64 16] (.string ⟨#[16]⟩) := fun W => rOf 16 W (by omega)
theorem tOf5 : Ret 73 #[.int .i64 5] (.string ⟨#[5]⟩) := fun W => rOf 5 W (by omega)
theorem tOf3 : Ret 73 #[.int .i64 3] (.string ⟨#[3]⟩) := fun W => rOf 3 W (by omega)
theorem tOf7 : Ret 73 #[.int .i64 7] (.string ⟨#[7]⟩) := fun W => rOf 7 W (by omega)
theorem tOf8 : Ret 73 #[.int .i64 8] (.string ⟨#[8]⟩) := fun W => rOf 8 W (by omega)
theorem tOf9 : Ret 73 #[.int .i64 9] (.string ⟨#[9]⟩) := fun W => rOf 9 W (by omega)
theorem tOf81 : Ret 73 #[.int .i64 81] (.string ⟨#[81]⟩) := fun W => rOf 81 W (by omega)

theorem tRun0 : Ret 36 #[.string ⟨#[2]⟩, .int .i64 0] (.tuple #[.string ⟨#[2]⟩, .bool true]) := (Run_yes ⟨#[2]⟩ 0 (by decide) (by omega)).of (by kernel_rfl)
theorem tRun1 : Ret 36 #[.string ⟨#[2]⟩, .int .i64 1] (.tuple #[.string ⟨#[4]⟩, .bool true]) := (Run_yes ⟨#[2]⟩ 1 (by decide) (by omega)).of (by kernel_rfl)
theorem tRun3 : Ret 36 #[.string ⟨#[2]⟩, .int .i64 3] (.tuple #[.string ⟨#[1, 0]⟩, .bool true]) := (Run_yes ⟨#[2]⟩ 3 (by decide) (by omega)).of (by kernel_rfl)
theorem tRunM : Ret 36 #[.string ⟨#[2]⟩, .int .i64 (-1)] (.tuple #[.string ⟨#[]⟩, .bool false]) := Run_no _ _ (by omega)

theorem tProve (W : World) (hT : Tabs W) : Calls Tryz.prog 26 #[.string ⟨#[2]⟩, .int .i64 2] W fun e w' => (∃ (A : Option Addr) (c : Nat), e = .returned (.tuple #[.string ⟨#[16]⟩, .slice A 1 c, .bool true]) ∧ NDg w' A 1 c [⟨#[4]⟩]) ∧ Below W.heap.size W w' := by
  refine (Prove_yes ⟨#[2]⟩ 1 (by decide) (by omega) W hT).mono ?_
  rintro e w' ⟨A, c, ms, he, hm, hl, _, hf, hb⟩
  refine ⟨⟨A, c, he.trans (congrArg (fun s => Ending.returned (.tuple #[.string s, .slice A 1 c, .bool true])) (show natS (ranN (sval ⟨#[2]⟩) (2 ^ 1)) = ⟨#[16]⟩ by kernel_rfl)), ?_⟩, hb⟩
  have h1 := hf (by omega)
  match ms, hl, h1 with
  | [m], _, h1 =>
    have h2 : m = ranN (sval ⟨#[2]⟩) (2 ^ 1 / 2) := Option.some.inj h1
    have h3 : natS m = ⟨#[4]⟩ := by rw [h2]; kernel_rfl
    rw [List.map_cons, List.map_nil, h3] at hm
    exact hm

theorem vYes : verN 1 ⟨#[2]⟩ ⟨#[16]⟩ [⟨#[4]⟩] = true := by decide +kernel
theorem vNo : verN 1 ⟨#[2]⟩ ⟨#[16]⟩ [⟨#[5]⟩] = false := by decide +kernel
theorem tVerY (A : Option Addr) (c : Nat) (W : World) (hT : Tabs W) (h : NDg W A 1 c [⟨#[4]⟩]) : Calls Tryz.prog 28 #[.string ⟨#[2]⟩, .string ⟨#[16]⟩, .int .i64 2, .slice A 1 c] W fun e w' => e = .returned (.bool true) ∧ Below W.heap.size W w' := by
  have := Verify_yes ⟨#[2]⟩ ⟨#[16]⟩ 1 (by omega) A 1 c [⟨#[4]⟩] (by decide) (by decide) (by intro m hm; rw [List.mem_singleton.1 hm]; decide) (by omega) W hT h
  rw [vYes] at this
  exact this
theorem tVerN (A : Option Addr) (c : Nat) (W : World) (hT : Tabs W) (h : NDg W A 1 c [⟨#[5]⟩]) : Calls Tryz.prog 28 #[.string ⟨#[2]⟩, .string ⟨#[16]⟩, .int .i64 2, .slice A 1 c] W fun e w' => e = .returned (.bool false) ∧ Below W.heap.size W w' := by
  have := Verify_yes ⟨#[2]⟩ ⟨#[16]⟩ 1 (by omega) A 1 c [⟨#[5]⟩] (by decide) (by decide) (by intro m hm; rw [List.mem_singleton.1 hm]; decide) (by omega) W hT h
  rw [vNo] at this
  exact this
theorem tVerB (A : Option Addr) (n c : Nat) (W : World) : Calls Tryz.prog 28 #[.string ⟨#[2]⟩, .string ⟨#[16]⟩, .int .i64 3, .slice A n c] W fun e w' => e = .returned (.bool false) ∧ Below W.heap.size W w' := by
  refine Verify_bad 3 (fun n hn => ?_) ⟨#[2]⟩ ⟨#[16]⟩ A _ c W
  match n with
  | 0 => decide
  | 1 => decide
  | n + 2 => rw [Nat.pow_succ, Nat.pow_succ]; omega

theorem tNext7 : Ret 24 #[dispV 0 4 ⟨#[]⟩ ⟨#[]⟩ ⟨#[]⟩, .string ⟨#[7]⟩, .string ⟨#[7]⟩] (dispV 2 4 ⟨#[7]⟩ ⟨#[]⟩ ⟨#[]⟩) := (Next_in 0 4 _ _ _ _ _ (by omega) (by omega) (by omega) (by decide) (by decide)).of (by rw [if_pos rfl]; rfl)
theorem tNext8 : Ret 24 #[dispV 0 4 ⟨#[]⟩ ⟨#[]⟩ ⟨#[]⟩, .string ⟨#[7]⟩, .string ⟨#[8]⟩] (dispV 0 2 ⟨#[]⟩ ⟨#[7]⟩ ⟨#[8]⟩) := (Next_in 0 4 _ _ _ _ _ (by omega) (by omega) (by omega) (by decide) (by decide)).of (by rw [if_neg (by decide)]; rfl)
theorem tDec2 : Ret 25 #[dispV 0 1 ⟨#[3]⟩ ⟨#[9]⟩ ⟨#[8]⟩] (.int .i64 2) := (Decide_in 0 1 _ _ _ (by omega) (by omega) (by omega) (by decide) (by decide) (by decide)).of (by rw [show decideN ⟨#[3]⟩ ⟨#[9]⟩ ⟨#[8]⟩ = 2 by decide +kernel])
theorem tDec1 : Ret 25 #[dispV 0 1 ⟨#[3]⟩ ⟨#[8]⟩ ⟨#[9]⟩] (.int .i64 1) := (Decide_in 0 1 _ _ _ (by omega) (by omega) (by omega) (by decide) (by decide) (by decide)).of (by rw [show decideN ⟨#[3]⟩ ⟨#[8]⟩ ⟨#[9]⟩ = 1 by decide +kernel])
theorem tDec3 : Ret 25 #[dispV 0 1 ⟨#[3]⟩ ⟨#[7]⟩ ⟨#[8]⟩] (.int .i64 3) := (Decide_in 0 1 _ _ _ (by omega) (by omega) (by omega) (by decide) (by decide) (by decide)).of (by rw [show decideN ⟨#[3]⟩ ⟨#[7]⟩ ⟨#[8]⟩ = 3 by decide +kernel])

/-- Powers of 3 as strings. -/
def three (i : Nat) : ByteArray := natS (ranN 3 i)
theorem three_next (i : Nat) : Ret 40 #[.string (three i)] (.string (three (i + 1))) := (Square_q _ (Nat.le_trans (ran_size _ _) (by omega))).of (by unfold three; rw [ran_step])
theorem tNew (W : World) : Calls Tryz.prog 32 #[.string ⟨#[3]⟩, .int .i64 2] W fun e w' => ∃ g, e = .returned (.pointer (some ⟨g, 0, none⟩)) ∧ W.heap.size ≤ g ∧ Blk w' g 46 (workA (three 0) 0 2) ∧ Below W.heap.size W w' := New_yes ⟨#[3]⟩ 2 (by decide) (by omega) W
theorem tStep1 (g : Nat) (W : World) (hk : Blk W g 46 (workA (three 0) 0 2)) : Calls Tryz.prog 30 #[.pointer (some ⟨g, 0, none⟩), .int .i64 1] W fun e w' => e = .returned (.bool false) ∧ Blk w' g 46 (workA (three 1) 1 2) ∧ W.grownBy w' (some g) :=
  Step_any g three 0 2 1 (by omega) (by omega) (by omega) (fun i _ _ => three_next i) W hk
theorem tStep5 (g : Nat) (W : World) (hk : Blk W g 46 (workA (three 1) 1 2)) : Calls Tryz.prog 30 #[.pointer (some ⟨g, 0, none⟩), .int .i64 5] W fun e w' => e = .returned (.bool true) ∧ Blk w' g 46 (workA (three 2) 2 2) ∧ W.grownBy w' (some g) :=
  Step_any g three 1 2 5 (by omega) (by omega) (by omega) (fun i _ _ => three_next i) W hk
theorem dec_one {n : Nat} (h : n < 10) : decS n = ⟨#[UInt8.ofNat (48 + n)]⟩ := by unfold decS; rw [Lib.decDigits_one h]
theorem tSave (g : Nat) (W : World) (hT : Tabs W) (hk : Blk W g 46 (workA (three 1) 1 2)) : Calls Tryz.prog 31 #[.pointer (some ⟨g, 0, none⟩)] W fun e w' => e = .returned (.string ⟨#[119, 111, 114, 107, 32, 49, 32, 50, 32, 57]⟩) ∧ Below W.heap.size W w' := by
  have := Save_yes g (three 1) 1 2 (by decide) (by omega) (by omega) W hT hk
  have e : saveS 1 2 (sval (three 1)) = ⟨#[119, 111, 114, 107, 32, 49, 32, 50, 32, 57]⟩ := by
    have h3 : sval (three 1) = 9 := by unfold three; rw [sval_natS]; decide
    unfold saveS
    rw [h3, dec_one (by omega), dec_one (by omega), dec_one (by omega)]
    rfl
  rw [e] at this
  exact this
theorem tEnd (g : Nat) (W : World) (hk : Blk W g 46 (workA (three 2) 2 2)) : Calls Tryz.prog 29 #[.pointer (some ⟨g, 0, none⟩)] W fun e w' => e = .returned (.tuple #[.string ⟨#[81]⟩, .bool true]) ∧ Below W.heap.size W w' := End_yes g (three 2) 2 W hk

end Go.Proofs.YtebgmlbbilcbbaaGreatDoor
