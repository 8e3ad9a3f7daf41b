/- sanity: the examples of the document hold; the table of powers of ten is as laid. Printed by a program. -/
import Derived.Test.YthiogjpjkdnbjaaGreatDoorNatQ
import Derived.Test.YthiogjpjkdnbjaaGreatDoorNatR
namespace Go.Proofs.YthiogjpjkdnbjaaGreatDoor
open Go.RowKit

theorem dec_65536 : decS (sval ⟨#[1, 0, 0]⟩) = ⟨#[54, 53, 53, 51, 54]⟩ := by
  have e : sval ⟨#[1, 0, 0]⟩ = 65536 := by decide
  rw [e]
  unfold decS
  rw [dec_ten (by omega), dec_ten (by omega), dec_ten (by omega), dec_ten (by omega), Lib.decDigits_one (by omega)]
  rfl
theorem pow_one : powRes (sval ⟨#[3]⟩) (sval ⟨#[200]⟩) (sval ⟨#[3, 232]⟩) = .tuple #[.string ⟨#[1]⟩, .bool true] := by
  have e1 : sval ⟨#[3]⟩ = 3 := by decide
  have e2 : sval ⟨#[200]⟩ = 200 := by decide
  have e3 : sval ⟨#[3, 232]⟩ = 1000 := by decide
  have e4 : 3 ^ 200 % 1000 = 1 := by decide
  rw [e1, e2, e3]
  unfold powRes
  rw [if_neg (by omega), e4]
  rfl

set_option maxRecDepth 100000 in
set_option maxHeartbeats 400000 in
theorem Parse_007 (w : World) : Calls Tryz.prog 26 #[.string ⟨#[48, 48, 55]⟩] w fun e w' => e = .returned (.tuple #[.string ⟨#[]⟩, .bool false]) ∧ Below w.heap.size w w' := by
  go_enter Tryz.func26, Tryz.ntmps26
  go_wp2_with fail
  go_ret2
  exact ⟨rfl, Below.refl _ _⟩

theorem shOf256 (W : World) : Calls Tryz.prog 31 #[.int .i64 (256)] W fun e w' => e = .returned (.string ⟨#[1, 0]⟩) ∧ Below W.heap.size W w' :=
  (Of_any (256) W (by omega)).mono (fun e w' h => ⟨h.1.trans (congrArg (fun s => Ending.returned (Value.string s)) (show natS (Int.toNat (256)) = ⟨#[1, 0]⟩ by decide)), h.2⟩)
theorem shOfm1 (W : World) : Calls Tryz.prog 31 #[.int .i64 (-1)] W fun e w' => e = .returned (.string ⟨#[]⟩) ∧ Below W.heap.size W w' :=
  (Of_any (-1) W (by omega)).mono (fun e w' h => ⟨h.1.trans (congrArg (fun s => Ending.returned (Value.string s)) (show natS (Int.toNat (-1)) = ⟨#[]⟩ by decide)), h.2⟩)
theorem shOf3 (W : World) : Calls Tryz.prog 31 #[.int .i64 (3)] W fun e w' => e = .returned (.string ⟨#[3]⟩) ∧ Below W.heap.size W w' :=
  (Of_any (3) W (by omega)).mono (fun e w' h => ⟨h.1.trans (congrArg (fun s => Ending.returned (Value.string s)) (show natS (Int.toNat (3)) = ⟨#[3]⟩ by decide)), h.2⟩)
theorem shOf5 (W : World) : Calls Tryz.prog 31 #[.int .i64 (5)] W fun e w' => e = .returned (.string ⟨#[5]⟩) ∧ Below W.heap.size W w' :=
  (Of_any (5) W (by omega)).mono (fun e w' h => ⟨h.1.trans (congrArg (fun s => Ending.returned (Value.string s)) (show natS (Int.toNat (5)) = ⟨#[5]⟩ by decide)), h.2⟩)
theorem shOf1000 (W : World) : Calls Tryz.prog 31 #[.int .i64 (1000)] W fun e w' => e = .returned (.string ⟨#[3, 232]⟩) ∧ Below W.heap.size W w' :=
  (Of_any (1000) W (by omega)).mono (fun e w' h => ⟨h.1.trans (congrArg (fun s => Ending.returned (Value.string s)) (show natS (Int.toNat (1000)) = ⟨#[3, 232]⟩ by decide)), h.2⟩)
theorem shOf7 (W : World) : Calls Tryz.prog 31 #[.int .i64 (7)] W fun e w' => e = .returned (.string ⟨#[7]⟩) ∧ Below W.heap.size W w' :=
  (Of_any (7) W (by omega)).mono (fun e w' h => ⟨h.1.trans (congrArg (fun s => Ending.returned (Value.string s)) (show natS (Int.toNat (7)) = ⟨#[7]⟩ by decide)), h.2⟩)
theorem shOf2 (W : World) : Calls Tryz.prog 31 #[.int .i64 (2)] W fun e w' => e = .returned (.string ⟨#[2]⟩) ∧ Below W.heap.size W w' :=
  (Of_any (2) W (by omega)).mono (fun e w' h => ⟨h.1.trans (congrArg (fun s => Ending.returned (Value.string s)) (show natS (Int.toNat (2)) = ⟨#[2]⟩ by decide)), h.2⟩)
theorem shOf142 (W : World) : Calls Tryz.prog 31 #[.int .i64 (142)] W fun e w' => e = .returned (.string ⟨#[142]⟩) ∧ Below W.heap.size W w' :=
  (Of_any (142) W (by omega)).mono (fun e w' h => ⟨h.1.trans (congrArg (fun s => Ending.returned (Value.string s)) (show natS (Int.toNat (142)) = ⟨#[142]⟩ by decide)), h.2⟩)
theorem shOf6 (W : World) : Calls Tryz.prog 31 #[.int .i64 (6)] W fun e w' => e = .returned (.string ⟨#[6]⟩) ∧ Below W.heap.size W w' :=
  (Of_any (6) W (by omega)).mono (fun e w' h => ⟨h.1.trans (congrArg (fun s => Ending.returned (Value.string s)) (show natS (Int.toNat (6)) = ⟨#[6]⟩ by decide)), h.2⟩)
theorem shOf12 (W : World) : Calls Tryz.prog 31 #[.int .i64 (12)] W fun e w' => e = .returned (.string ⟨#[12]⟩) ∧ Below W.heap.size W w' :=
  (Of_any (12) W (by omega)).mono (fun e w' h => ⟨h.1.trans (congrArg (fun s => Ending.returned (Value.string s)) (show natS (Int.toNat (12)) = ⟨#[12]⟩ by decide)), h.2⟩)
theorem shOf18 (W : World) : Calls Tryz.prog 31 #[.int .i64 (18)] W fun e w' => e = .returned (.string ⟨#[18]⟩) ∧ Below W.heap.size W w' :=
  (Of_any (18) W (by omega)).mono (fun e w' h => ⟨h.1.trans (congrArg (fun s => Ending.returned (Value.string s)) (show natS (Int.toNat (18)) = ⟨#[18]⟩ by decide)), h.2⟩)
theorem shOf200 (W : World) : Calls Tryz.prog 31 #[.int .i64 (200)] W fun e w' => e = .returned (.string ⟨#[200]⟩) ∧ Below W.heap.size W w' :=
  (Of_any (200) W (by omega)).mono (fun e w' h => ⟨h.1.trans (congrArg (fun s => Ending.returned (Value.string s)) (show natS (Int.toNat (200)) = ⟨#[200]⟩ by decide)), h.2⟩)
theorem shOf1 (W : World) : Calls Tryz.prog 31 #[.int .i64 (1)] W fun e w' => e = .returned (.string ⟨#[1]⟩) ∧ Below W.heap.size W w' :=
  (Of_any (1) W (by omega)).mono (fun e w' h => ⟨h.1.trans (congrArg (fun s => Ending.returned (Value.string s)) (show natS (Int.toNat (1)) = ⟨#[1]⟩ by decide)), h.2⟩)
theorem shOf255 (W : World) : Calls Tryz.prog 31 #[.int .i64 (255)] W fun e w' => e = .returned (.string ⟨#[255]⟩) ∧ Below W.heap.size W w' :=
  (Of_any (255) W (by omega)).mono (fun e w' h => ⟨h.1.trans (congrArg (fun s => Ending.returned (Value.string s)) (show natS (Int.toNat (255)) = ⟨#[255]⟩ by decide)), h.2⟩)
theorem shInt (W : World) : Calls Tryz.prog 32 #[.string ⟨#[0, 1, 0]⟩] W fun e w' => e = .returned (.tuple #[.int .i64 256, .bool true]) ∧ Below W.heap.size W w' :=
  (Int_any ⟨#[0, 1, 0]⟩ W (by decide)).mono (fun e w' h => ⟨h.1.trans rfl, h.2⟩)
theorem shSub1 (W : World) : Calls Tryz.prog 38 #[.string ⟨#[3]⟩, .string ⟨#[5]⟩] W fun e w' => e = .returned (.tuple #[.string ⟨#[]⟩, .bool false]) ∧ Below W.heap.size W w' :=
  (Sub_any ⟨#[3]⟩ ⟨#[5]⟩ W (by decide) (by decide)).mono (fun e w' h => ⟨h.1.trans rfl, h.2⟩)
theorem shSub2 (W : World) : Calls Tryz.prog 38 #[.string ⟨#[5]⟩, .string ⟨#[3]⟩] W fun e w' => e = .returned (.tuple #[.string ⟨#[2]⟩, .bool true]) ∧ Below W.heap.size W w' :=
  (Sub_any ⟨#[5]⟩ ⟨#[3]⟩ W (by decide) (by decide)).mono (fun e w' h => ⟨h.1.trans rfl, h.2⟩)
theorem shQuo (W : World) : Calls Tryz.prog 19 #[.string ⟨#[3, 232]⟩, .string ⟨#[7]⟩] W fun e w' => e = .returned (.tuple #[.string ⟨#[142]⟩, .string ⟨#[6]⟩, .bool true]) ∧ Below W.heap.size W w' :=
  (Quo_any ⟨#[3, 232]⟩ ⟨#[7]⟩ W (by decide) (by decide)).mono (fun e w' h => ⟨h.1.trans rfl, h.2⟩)
theorem shGcd1 (W : World) : Calls Tryz.prog 21 #[.string ⟨#[12]⟩, .string ⟨#[18]⟩] W fun e w' => e = .returned (.string ⟨#[6]⟩) ∧ Below W.heap.size W w' :=
  (Gcd_any ⟨#[12]⟩ ⟨#[18]⟩ W (by decide) (by decide)).mono (fun e w' h => ⟨h.1.trans (congrArg (fun s => Ending.returned (Value.string s)) (show natS (Nat.gcd (sval ⟨#[12]⟩) (sval ⟨#[18]⟩)) = ⟨#[6]⟩ by decide)), h.2⟩)
theorem shGcd2 (W : World) : Calls Tryz.prog 21 #[.string ⟨#[]⟩, .string ⟨#[5]⟩] W fun e w' => e = .returned (.string ⟨#[5]⟩) ∧ Below W.heap.size W w' :=
  (Gcd_any ⟨#[]⟩ ⟨#[5]⟩ W (by decide) (by decide)).mono (fun e w' h => ⟨h.1.trans (congrArg (fun s => Ending.returned (Value.string s)) (show natS (Nat.gcd (sval ⟨#[]⟩) (sval ⟨#[5]⟩)) = ⟨#[5]⟩ by decide)), h.2⟩)
theorem shPow1 (W : World) : Calls Tryz.prog 23 #[.string ⟨#[3]⟩, .string ⟨#[200]⟩, .string ⟨#[3, 232]⟩] W fun e w' => e = .returned (.tuple #[.string ⟨#[1]⟩, .bool true]) ∧ Below W.heap.size W w' :=
  (Pow_any ⟨#[3]⟩ ⟨#[200]⟩ ⟨#[3, 232]⟩ W (by decide) (by decide) (by decide)).mono (fun e w' h => ⟨h.1.trans (congrArg Ending.returned pow_one), h.2⟩)
theorem shPow2 (W : World) : Calls Tryz.prog 23 #[.string ⟨#[5]⟩, .string ⟨#[]⟩, .string ⟨#[1]⟩] W fun e w' => e = .returned (.tuple #[.string ⟨#[]⟩, .bool true]) ∧ Below W.heap.size W w' :=
  (Pow_any ⟨#[5]⟩ ⟨#[]⟩ ⟨#[1]⟩ W (by decide) (by decide) (by decide)).mono (fun e w' h => ⟨h.1.trans rfl, h.2⟩)
theorem shBits1 (W : World) : Calls Tryz.prog 34 #[.string ⟨#[255]⟩] W fun e w' => e = .returned (.int .i64 8) ∧ Below W.heap.size W w' :=
  (Bits_any ⟨#[255]⟩ W (by decide)).mono (fun e w' h => ⟨h.1.trans (congrArg (fun n : Nat => Ending.returned (Value.int .i64 (n : Int))) (bitsN_eq (n := sval ⟨#[255]⟩) (k := 7) (by decide) (by decide))), h.2 ▸ Below.refl _ _⟩)
theorem shBits2 (W : World) : Calls Tryz.prog 34 #[.string ⟨#[1, 0]⟩] W fun e w' => e = .returned (.int .i64 9) ∧ Below W.heap.size W w' :=
  (Bits_any ⟨#[1, 0]⟩ W (by decide)).mono (fun e w' h => ⟨h.1.trans (congrArg (fun n : Nat => Ending.returned (Value.int .i64 (n : Int))) (bitsN_eq (n := sval ⟨#[1, 0]⟩) (k := 8) (by decide) (by decide))), h.2 ▸ Below.refl _ _⟩)

set_option maxRecDepth 100000 in
set_option maxHeartbeats 4000000 in
theorem sanity_any (w : World) (ht : Pow10 w) : Calls Tryz.prog 13 #[] w fun e w' => e = .returned (.bool true) ∧ Below w.heap.size w w' := by
  have HT := Lib.hid ht
  clear ht
  have hB := Below.refl w.heap.size w
  go_enter Tryz.func13, Tryz.ntmps13
  go_wp2_with (first
    | (go_at_call 31; (with_reducible refine (shOf256 _).mono ?_); rintro e w' ⟨rfl, hb'⟩; replace hB := below_then hB hb'; clear hb')
    | (go_at_call 31; (with_reducible refine (shOfm1 _).mono ?_); rintro e w' ⟨rfl, hb'⟩; replace hB := below_then hB hb'; clear hb')
    | (go_at_call 31; (with_reducible refine (shOf3 _).mono ?_); rintro e w' ⟨rfl, hb'⟩; replace hB := below_then hB hb'; clear hb')
    | (go_at_call 31; (with_reducible refine (shOf5 _).mono ?_); rintro e w' ⟨rfl, hb'⟩; replace hB := below_then hB hb'; clear hb')
    | (go_at_call 31; (with_reducible refine (shOf1000 _).mono ?_); rintro e w' ⟨rfl, hb'⟩; replace hB := below_then hB hb'; clear hb')
    | (go_at_call 31; (with_reducible refine (shOf7 _).mono ?_); rintro e w' ⟨rfl, hb'⟩; replace hB := below_then hB hb'; clear hb')
    | (go_at_call 31; (with_reducible refine (shOf2 _).mono ?_); rintro e w' ⟨rfl, hb'⟩; replace hB := below_then hB hb'; clear hb')
    | (go_at_call 31; (with_reducible refine (shOf142 _).mono ?_); rintro e w' ⟨rfl, hb'⟩; replace hB := below_then hB hb'; clear hb')
    | (go_at_call 31; (with_reducible refine (shOf6 _).mono ?_); rintro e w' ⟨rfl, hb'⟩; replace hB := below_then hB hb'; clear hb')
    | (go_at_call 31; (with_reducible refine (shOf12 _).mono ?_); rintro e w' ⟨rfl, hb'⟩; replace hB := below_then hB hb'; clear hb')
    | (go_at_call 31; (with_reducible refine (shOf18 _).mono ?_); rintro e w' ⟨rfl, hb'⟩; replace hB := below_then hB hb'; clear hb')
    | (go_at_call 31; (with_reducible refine (shOf200 _).mono ?_); rintro e w' ⟨rfl, hb'⟩; replace hB := below_then hB hb'; clear hb')
    | (go_at_call 31; (with_reducible refine (shOf1 _).mono ?_); rintro e w' ⟨rfl, hb'⟩; replace hB := below_then hB hb'; clear hb')
    | (go_at_call 31; (with_reducible refine (shOf255 _).mono ?_); rintro e w' ⟨rfl, hb'⟩; replace hB := below_then hB hb'; clear hb')
    | (go_at_call 32; (with_reducible refine (shInt _).mono ?_); rintro e w' ⟨rfl, hb'⟩; replace hB := below_then hB hb'; clear hb')
    | (go_at_call 38; (with_reducible refine (shSub1 _).mono ?_); rintro e w' ⟨rfl, hb'⟩; replace hB := below_then hB hb'; clear hb')
    | (go_at_call 38; (with_reducible refine (shSub2 _).mono ?_); rintro e w' ⟨rfl, hb'⟩; replace hB := below_then hB hb'; clear hb')
    | (go_at_call 19; (with_reducible refine (shQuo _).mono ?_); rintro e w' ⟨rfl, hb'⟩; replace hB := below_then hB hb'; clear hb')
    | (go_at_call 21; (with_reducible refine (shGcd1 _).mono ?_); rintro e w' ⟨rfl, hb'⟩; replace hB := below_then hB hb'; clear hb')
    | (go_at_call 21; (with_reducible refine (shGcd2 _).mono ?_); rintro e w' ⟨rfl, hb'⟩; replace hB := below_then hB hb'; clear hb')
    | (go_at_call 23; (with_reducible refine (shPow1 _).mono ?_); rintro e w' ⟨rfl, hb'⟩; replace hB := below_then hB hb'; clear hb')
    | (go_at_call 23; (with_reducible refine (shPow2 _).mono ?_); rintro e w' ⟨rfl, hb'⟩; replace hB := below_then hB hb'; clear hb')
    | (go_at_call 26; (with_reducible refine (Parse_007 _).mono ?_); rintro e w' ⟨rfl, hb'⟩; replace hB := below_then hB hb'; clear hb')
    | (go_at_call 34; (with_reducible refine (shBits1 _).mono ?_); rintro e w' ⟨rfl, hb'⟩; replace hB := below_then hB hb'; clear hb')
    | (go_at_call 34; (with_reducible refine (shBits2 _).mono ?_); rintro e w' ⟨rfl, hb'⟩; replace hB := below_then hB hb'; clear hb')
    | (go_at_call 25; (with_reducible refine (Text_any ⟨#[1, 0, 0]⟩ _ (by decide) (HT.out.below hB)).mono ?_); rw [dec_65536]; rintro e w' ⟨rfl, hb'⟩; replace hB := below_then hB hb'; clear hb'))
  go_ret
  exact ⟨rfl, hB⟩

end Go.Proofs.YthiogjpjkdnbjaaGreatDoor
