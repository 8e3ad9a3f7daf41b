/- Joined by a program: ShaA, ShaB. -/
import Derived.Test.YtkpinmejfdnhbaaGreatDoorNatOne
import Derived.Test.YtkpinmejfdnhbaaGreatDoorPlainMore
import Derived.Deep.QuietTactic
import Derived.BigQuiet
import Derived.BigRegion
import Derived.Lib.LaidTab
import Derived.Outline
set_option maxRecDepth 100000
set_option maxHeartbeats 2000000
namespace Go.Proofs.YtkpinmejfdnhbaaGreatDoor
open Go.RowKit
theorem turn_2 (x : Nat) (hx : x < 4294967296) : bits .or .u32 ((x : Int) * 1073741824 % 4294967296) ((x : Int) / 4) = ((rotr 2 x : Nat) : Int) := by
 rw [show (x : Int) * 1073741824 % 4294967296 = ((x * 2 ^ (32 - 2) % 4294967296 : Nat) : Int) by simp, show (x : Int) / 4 = ((x / 2 ^ 2 : Nat) : Int) by simp, u32_or_nat _ _ (mod32 _) (div32 _ hx), Nat.or_comm]
 rfl
theorem turn'_2 (x : Nat) (hx : x < 4294967296) : bits .or .u32 ((x : Int) / 4) ((x : Int) * 1073741824 % 4294967296) = ((rotr 2 x : Nat) : Int) := by
 rw [show (x : Int) * 1073741824 % 4294967296 = ((x * 2 ^ (32 - 2) % 4294967296 : Nat) : Int) by simp, show (x : Int) / 4 = ((x / 2 ^ 2 : Nat) : Int) by simp, u32_or_nat _ _ (div32 _ hx) (mod32 _)]
 rfl
theorem left_2 (x : Nat) (hx : x < 4294967296) (w : World) : Calls Tryz.prog 247 #[.int .u32 (x : Int), .int .i64 (-2)] w fun e w' => e = .returned (.int .u32 ((rotr 2 x : Nat) : Int)) ∧ w = w' := by
 have hv := turn_2 x hx;have hc : IntKind.u64.wrap (-2) = 18446744073709551614 := by decide
 have ha : bits .and .u64 18446744073709551614 31 = 30 := by decide
 go_enter Tryz.func247, Tryz.ntmps247;go_wp2_with fail;go_ret;exact ⟨by first | rfl | rw [hv], rfl⟩
theorem rotate_2 (x : Nat) (hx : x < 4294967296) (w : World) : Calls Tryz.prog 216 #[.int .u32 (x : Int), .int .i64 2] w fun e w' => e = .returned (.int .u32 ((rotr 2 x : Nat) : Int)) ∧ w = w' := by
 have m1 := Lib.hid (fun W => left_2 x hx W);go_enter Tryz.func216, Tryz.ntmps216;go_wp2_with fail;refine (m1.out _).mono ?_;rintro e w' ⟨rfl, rfl⟩;go_wp2_with fail;go_ret;exact ⟨rfl, rfl⟩
theorem rot_2 (x : Nat) (hx : x < 4294967296) (w : World) : Calls Tryz.prog 184 #[.int .u32 (x : Int), .int .i64 2] w fun e w' => e = .returned (.int .u32 ((rotr 2 x : Nat) : Int)) ∧ ∃ n, w' = w.drewN n := by
 have hv := turn'_2 x hx;have hw : IntKind.i64.wrap (32 - 2) = 30 := by decide
 go_enter Tryz.func184, Tryz.ntmps184;go_wp2_with fail
 go_quiet (fail)
 go_wp2_with fail;go_ret;exact ⟨by first | rfl | rw [hv], _, rfl⟩
theorem turn_6 (x : Nat) (hx : x < 4294967296) : bits .or .u32 ((x : Int) * 67108864 % 4294967296) ((x : Int) / 64) = ((rotr 6 x : Nat) : Int) := by
 rw [show (x : Int) * 67108864 % 4294967296 = ((x * 2 ^ (32 - 6) % 4294967296 : Nat) : Int) by simp, show (x : Int) / 64 = ((x / 2 ^ 6 : Nat) : Int) by simp, u32_or_nat _ _ (mod32 _) (div32 _ hx), Nat.or_comm]
 rfl
theorem turn'_6 (x : Nat) (hx : x < 4294967296) : bits .or .u32 ((x : Int) / 64) ((x : Int) * 67108864 % 4294967296) = ((rotr 6 x : Nat) : Int) := by
 rw [show (x : Int) * 67108864 % 4294967296 = ((x * 2 ^ (32 - 6) % 4294967296 : Nat) : Int) by simp, show (x : Int) / 64 = ((x / 2 ^ 6 : Nat) : Int) by simp, u32_or_nat _ _ (div32 _ hx) (mod32 _)]
 rfl
theorem left_6 (x : Nat) (hx : x < 4294967296) (w : World) : Calls Tryz.prog 247 #[.int .u32 (x : Int), .int .i64 (-6)] w fun e w' => e = .returned (.int .u32 ((rotr 6 x : Nat) : Int)) ∧ w = w' := by
 have hv := turn_6 x hx;have hc : IntKind.u64.wrap (-6) = 18446744073709551610 := by decide
 have ha : bits .and .u64 18446744073709551610 31 = 26 := by decide
 go_enter Tryz.func247, Tryz.ntmps247;go_wp2_with fail;go_ret;exact ⟨by first | rfl | rw [hv], rfl⟩
theorem rotate_6 (x : Nat) (hx : x < 4294967296) (w : World) : Calls Tryz.prog 216 #[.int .u32 (x : Int), .int .i64 6] w fun e w' => e = .returned (.int .u32 ((rotr 6 x : Nat) : Int)) ∧ w = w' := by
 have m1 := Lib.hid (fun W => left_6 x hx W);go_enter Tryz.func216, Tryz.ntmps216;go_wp2_with fail;refine (m1.out _).mono ?_;rintro e w' ⟨rfl, rfl⟩;go_wp2_with fail;go_ret;exact ⟨rfl, rfl⟩
theorem rot_6 (x : Nat) (hx : x < 4294967296) (w : World) : Calls Tryz.prog 184 #[.int .u32 (x : Int), .int .i64 6] w fun e w' => e = .returned (.int .u32 ((rotr 6 x : Nat) : Int)) ∧ ∃ n, w' = w.drewN n := by
 have hv := turn'_6 x hx;have hw : IntKind.i64.wrap (32 - 6) = 26 := by decide
 go_enter Tryz.func184, Tryz.ntmps184;go_wp2_with fail
 go_quiet (fail)
 go_wp2_with fail;go_ret;exact ⟨by first | rfl | rw [hv], _, rfl⟩
theorem turn_7 (x : Nat) (hx : x < 4294967296) : bits .or .u32 ((x : Int) * 33554432 % 4294967296) ((x : Int) / 128) = ((rotr 7 x : Nat) : Int) := by
 rw [show (x : Int) * 33554432 % 4294967296 = ((x * 2 ^ (32 - 7) % 4294967296 : Nat) : Int) by simp, show (x : Int) / 128 = ((x / 2 ^ 7 : Nat) : Int) by simp, u32_or_nat _ _ (mod32 _) (div32 _ hx), Nat.or_comm]
 rfl
theorem turn'_7 (x : Nat) (hx : x < 4294967296) : bits .or .u32 ((x : Int) / 128) ((x : Int) * 33554432 % 4294967296) = ((rotr 7 x : Nat) : Int) := by
 rw [show (x : Int) * 33554432 % 4294967296 = ((x * 2 ^ (32 - 7) % 4294967296 : Nat) : Int) by simp, show (x : Int) / 128 = ((x / 2 ^ 7 : Nat) : Int) by simp, u32_or_nat _ _ (div32 _ hx) (mod32 _)]
 rfl
theorem left_7 (x : Nat) (hx : x < 4294967296) (w : World) : Calls Tryz.prog 247 #[.int .u32 (x : Int), .int .i64 (-7)] w fun e w' => e = .returned (.int .u32 ((rotr 7 x : Nat) : Int)) ∧ w = w' := by
 have hv := turn_7 x hx;have hc : IntKind.u64.wrap (-7) = 18446744073709551609 := by decide
 have ha : bits .and .u64 18446744073709551609 31 = 25 := by decide
 go_enter Tryz.func247, Tryz.ntmps247;go_wp2_with fail;go_ret;exact ⟨by first | rfl | rw [hv], rfl⟩
theorem rotate_7 (x : Nat) (hx : x < 4294967296) (w : World) : Calls Tryz.prog 216 #[.int .u32 (x : Int), .int .i64 7] w fun e w' => e = .returned (.int .u32 ((rotr 7 x : Nat) : Int)) ∧ w = w' := by
 have m1 := Lib.hid (fun W => left_7 x hx W);go_enter Tryz.func216, Tryz.ntmps216;go_wp2_with fail;refine (m1.out _).mono ?_;rintro e w' ⟨rfl, rfl⟩;go_wp2_with fail;go_ret;exact ⟨rfl, rfl⟩
theorem rot_7 (x : Nat) (hx : x < 4294967296) (w : World) : Calls Tryz.prog 184 #[.int .u32 (x : Int), .int .i64 7] w fun e w' => e = .returned (.int .u32 ((rotr 7 x : Nat) : Int)) ∧ ∃ n, w' = w.drewN n := by
 have hv := turn'_7 x hx;have hw : IntKind.i64.wrap (32 - 7) = 25 := by decide
 go_enter Tryz.func184, Tryz.ntmps184;go_wp2_with fail
 go_quiet (fail)
 go_wp2_with fail;go_ret;exact ⟨by first | rfl | rw [hv], _, rfl⟩
theorem turn_11 (x : Nat) (hx : x < 4294967296) : bits .or .u32 ((x : Int) * 2097152 % 4294967296) ((x : Int) / 2048) = ((rotr 11 x : Nat) : Int) := by
 rw [show (x : Int) * 2097152 % 4294967296 = ((x * 2 ^ (32 - 11) % 4294967296 : Nat) : Int) by simp, show (x : Int) / 2048 = ((x / 2 ^ 11 : Nat) : Int) by simp, u32_or_nat _ _ (mod32 _) (div32 _ hx), Nat.or_comm]
 rfl
theorem turn'_11 (x : Nat) (hx : x < 4294967296) : bits .or .u32 ((x : Int) / 2048) ((x : Int) * 2097152 % 4294967296) = ((rotr 11 x : Nat) : Int) := by
 rw [show (x : Int) * 2097152 % 4294967296 = ((x * 2 ^ (32 - 11) % 4294967296 : Nat) : Int) by simp, show (x : Int) / 2048 = ((x / 2 ^ 11 : Nat) : Int) by simp, u32_or_nat _ _ (div32 _ hx) (mod32 _)]
 rfl
theorem left_11 (x : Nat) (hx : x < 4294967296) (w : World) : Calls Tryz.prog 247 #[.int .u32 (x : Int), .int .i64 (-11)] w fun e w' => e = .returned (.int .u32 ((rotr 11 x : Nat) : Int)) ∧ w = w' := by
 have hv := turn_11 x hx;have hc : IntKind.u64.wrap (-11) = 18446744073709551605 := by decide
 have ha : bits .and .u64 18446744073709551605 31 = 21 := by decide
 go_enter Tryz.func247, Tryz.ntmps247;go_wp2_with fail;go_ret;exact ⟨by first | rfl | rw [hv], rfl⟩
theorem rotate_11 (x : Nat) (hx : x < 4294967296) (w : World) : Calls Tryz.prog 216 #[.int .u32 (x : Int), .int .i64 11] w fun e w' => e = .returned (.int .u32 ((rotr 11 x : Nat) : Int)) ∧ w = w' := by
 have m1 := Lib.hid (fun W => left_11 x hx W);go_enter Tryz.func216, Tryz.ntmps216;go_wp2_with fail;refine (m1.out _).mono ?_;rintro e w' ⟨rfl, rfl⟩;go_wp2_with fail;go_ret;exact ⟨rfl, rfl⟩
theorem rot_11 (x : Nat) (hx : x < 4294967296) (w : World) : Calls Tryz.prog 184 #[.int .u32 (x : Int), .int .i64 11] w fun e w' => e = .returned (.int .u32 ((rotr 11 x : Nat) : Int)) ∧ ∃ n, w' = w.drewN n := by
 have hv := turn'_11 x hx;have hw : IntKind.i64.wrap (32 - 11) = 21 := by decide
 go_enter Tryz.func184, Tryz.ntmps184;go_wp2_with fail
 go_quiet (fail)
 go_wp2_with fail;go_ret;exact ⟨by first | rfl | rw [hv], _, rfl⟩
theorem turn_13 (x : Nat) (hx : x < 4294967296) : bits .or .u32 ((x : Int) * 524288 % 4294967296) ((x : Int) / 8192) = ((rotr 13 x : Nat) : Int) := by
 rw [show (x : Int) * 524288 % 4294967296 = ((x * 2 ^ (32 - 13) % 4294967296 : Nat) : Int) by simp, show (x : Int) / 8192 = ((x / 2 ^ 13 : Nat) : Int) by simp, u32_or_nat _ _ (mod32 _) (div32 _ hx), Nat.or_comm]
 rfl
theorem turn'_13 (x : Nat) (hx : x < 4294967296) : bits .or .u32 ((x : Int) / 8192) ((x : Int) * 524288 % 4294967296) = ((rotr 13 x : Nat) : Int) := by
 rw [show (x : Int) * 524288 % 4294967296 = ((x * 2 ^ (32 - 13) % 4294967296 : Nat) : Int) by simp, show (x : Int) / 8192 = ((x / 2 ^ 13 : Nat) : Int) by simp, u32_or_nat _ _ (div32 _ hx) (mod32 _)]
 rfl
theorem left_13 (x : Nat) (hx : x < 4294967296) (w : World) : Calls Tryz.prog 247 #[.int .u32 (x : Int), .int .i64 (-13)] w fun e w' => e = .returned (.int .u32 ((rotr 13 x : Nat) : Int)) ∧ w = w' := by
 have hv := turn_13 x hx;have hc : IntKind.u64.wrap (-13) = 18446744073709551603 := by decide
 have ha : bits .and .u64 18446744073709551603 31 = 19 := by decide
 go_enter Tryz.func247, Tryz.ntmps247;go_wp2_with fail;go_ret;exact ⟨by first | rfl | rw [hv], rfl⟩
theorem rotate_13 (x : Nat) (hx : x < 4294967296) (w : World) : Calls Tryz.prog 216 #[.int .u32 (x : Int), .int .i64 13] w fun e w' => e = .returned (.int .u32 ((rotr 13 x : Nat) : Int)) ∧ w = w' := by
 have m1 := Lib.hid (fun W => left_13 x hx W);go_enter Tryz.func216, Tryz.ntmps216;go_wp2_with fail;refine (m1.out _).mono ?_;rintro e w' ⟨rfl, rfl⟩;go_wp2_with fail;go_ret;exact ⟨rfl, rfl⟩
theorem rot_13 (x : Nat) (hx : x < 4294967296) (w : World) : Calls Tryz.prog 184 #[.int .u32 (x : Int), .int .i64 13] w fun e w' => e = .returned (.int .u32 ((rotr 13 x : Nat) : Int)) ∧ ∃ n, w' = w.drewN n := by
 have hv := turn'_13 x hx;have hw : IntKind.i64.wrap (32 - 13) = 19 := by decide
 go_enter Tryz.func184, Tryz.ntmps184;go_wp2_with fail
 go_quiet (fail)
 go_wp2_with fail;go_ret;exact ⟨by first | rfl | rw [hv], _, rfl⟩
theorem turn_17 (x : Nat) (hx : x < 4294967296) : bits .or .u32 ((x : Int) * 32768 % 4294967296) ((x : Int) / 131072) = ((rotr 17 x : Nat) : Int) := by
 rw [show (x : Int) * 32768 % 4294967296 = ((x * 2 ^ (32 - 17) % 4294967296 : Nat) : Int) by simp, show (x : Int) / 131072 = ((x / 2 ^ 17 : Nat) : Int) by simp, u32_or_nat _ _ (mod32 _) (div32 _ hx), Nat.or_comm]
 rfl
theorem turn'_17 (x : Nat) (hx : x < 4294967296) : bits .or .u32 ((x : Int) / 131072) ((x : Int) * 32768 % 4294967296) = ((rotr 17 x : Nat) : Int) := by
 rw [show (x : Int) * 32768 % 4294967296 = ((x * 2 ^ (32 - 17) % 4294967296 : Nat) : Int) by simp, show (x : Int) / 131072 = ((x / 2 ^ 17 : Nat) : Int) by simp, u32_or_nat _ _ (div32 _ hx) (mod32 _)]
 rfl
theorem left_17 (x : Nat) (hx : x < 4294967296) (w : World) : Calls Tryz.prog 247 #[.int .u32 (x : Int), .int .i64 (-17)] w fun e w' => e = .returned (.int .u32 ((rotr 17 x : Nat) : Int)) ∧ w = w' := by
 have hv := turn_17 x hx;have hc : IntKind.u64.wrap (-17) = 18446744073709551599 := by decide
 have ha : bits .and .u64 18446744073709551599 31 = 15 := by decide
 go_enter Tryz.func247, Tryz.ntmps247;go_wp2_with fail;go_ret;exact ⟨by first | rfl | rw [hv], rfl⟩
theorem rotate_17 (x : Nat) (hx : x < 4294967296) (w : World) : Calls Tryz.prog 216 #[.int .u32 (x : Int), .int .i64 17] w fun e w' => e = .returned (.int .u32 ((rotr 17 x : Nat) : Int)) ∧ w = w' := by
 have m1 := Lib.hid (fun W => left_17 x hx W);go_enter Tryz.func216, Tryz.ntmps216;go_wp2_with fail;refine (m1.out _).mono ?_;rintro e w' ⟨rfl, rfl⟩;go_wp2_with fail;go_ret;exact ⟨rfl, rfl⟩
theorem rot_17 (x : Nat) (hx : x < 4294967296) (w : World) : Calls Tryz.prog 184 #[.int .u32 (x : Int), .int .i64 17] w fun e w' => e = .returned (.int .u32 ((rotr 17 x : Nat) : Int)) ∧ ∃ n, w' = w.drewN n := by
 have hv := turn'_17 x hx;have hw : IntKind.i64.wrap (32 - 17) = 15 := by decide
 go_enter Tryz.func184, Tryz.ntmps184;go_wp2_with fail
 go_quiet (fail)
 go_wp2_with fail;go_ret;exact ⟨by first | rfl | rw [hv], _, rfl⟩
theorem turn_18 (x : Nat) (hx : x < 4294967296) : bits .or .u32 ((x : Int) * 16384 % 4294967296) ((x : Int) / 262144) = ((rotr 18 x : Nat) : Int) := by
 rw [show (x : Int) * 16384 % 4294967296 = ((x * 2 ^ (32 - 18) % 4294967296 : Nat) : Int) by simp, show (x : Int) / 262144 = ((x / 2 ^ 18 : Nat) : Int) by simp, u32_or_nat _ _ (mod32 _) (div32 _ hx), Nat.or_comm]
 rfl
theorem turn'_18 (x : Nat) (hx : x < 4294967296) : bits .or .u32 ((x : Int) / 262144) ((x : Int) * 16384 % 4294967296) = ((rotr 18 x : Nat) : Int) := by
 rw [show (x : Int) * 16384 % 4294967296 = ((x * 2 ^ (32 - 18) % 4294967296 : Nat) : Int) by simp, show (x : Int) / 262144 = ((x / 2 ^ 18 : Nat) : Int) by simp, u32_or_nat _ _ (div32 _ hx) (mod32 _)]
 rfl
theorem left_18 (x : Nat) (hx : x < 4294967296) (w : World) : Calls Tryz.prog 247 #[.int .u32 (x : Int), .int .i64 (-18)] w fun e w' => e = .returned (.int .u32 ((rotr 18 x : Nat) : Int)) ∧ w = w' := by
 have hv := turn_18 x hx;have hc : IntKind.u64.wrap (-18) = 18446744073709551598 := by decide
 have ha : bits .and .u64 18446744073709551598 31 = 14 := by decide
 go_enter Tryz.func247, Tryz.ntmps247;go_wp2_with fail;go_ret;exact ⟨by first | rfl | rw [hv], rfl⟩
theorem rotate_18 (x : Nat) (hx : x < 4294967296) (w : World) : Calls Tryz.prog 216 #[.int .u32 (x : Int), .int .i64 18] w fun e w' => e = .returned (.int .u32 ((rotr 18 x : Nat) : Int)) ∧ w = w' := by
 have m1 := Lib.hid (fun W => left_18 x hx W);go_enter Tryz.func216, Tryz.ntmps216;go_wp2_with fail;refine (m1.out _).mono ?_;rintro e w' ⟨rfl, rfl⟩;go_wp2_with fail;go_ret;exact ⟨rfl, rfl⟩
theorem rot_18 (x : Nat) (hx : x < 4294967296) (w : World) : Calls Tryz.prog 184 #[.int .u32 (x : Int), .int .i64 18] w fun e w' => e = .returned (.int .u32 ((rotr 18 x : Nat) : Int)) ∧ ∃ n, w' = w.drewN n := by
 have hv := turn'_18 x hx;have hw : IntKind.i64.wrap (32 - 18) = 14 := by decide
 go_enter Tryz.func184, Tryz.ntmps184;go_wp2_with fail
 go_quiet (fail)
 go_wp2_with fail;go_ret;exact ⟨by first | rfl | rw [hv], _, rfl⟩
theorem turn_19 (x : Nat) (hx : x < 4294967296) : bits .or .u32 ((x : Int) * 8192 % 4294967296) ((x : Int) / 524288) = ((rotr 19 x : Nat) : Int) := by
 rw [show (x : Int) * 8192 % 4294967296 = ((x * 2 ^ (32 - 19) % 4294967296 : Nat) : Int) by simp, show (x : Int) / 524288 = ((x / 2 ^ 19 : Nat) : Int) by simp, u32_or_nat _ _ (mod32 _) (div32 _ hx), Nat.or_comm]
 rfl
theorem turn'_19 (x : Nat) (hx : x < 4294967296) : bits .or .u32 ((x : Int) / 524288) ((x : Int) * 8192 % 4294967296) = ((rotr 19 x : Nat) : Int) := by
 rw [show (x : Int) * 8192 % 4294967296 = ((x * 2 ^ (32 - 19) % 4294967296 : Nat) : Int) by simp, show (x : Int) / 524288 = ((x / 2 ^ 19 : Nat) : Int) by simp, u32_or_nat _ _ (div32 _ hx) (mod32 _)]
 rfl
theorem left_19 (x : Nat) (hx : x < 4294967296) (w : World) : Calls Tryz.prog 247 #[.int .u32 (x : Int), .int .i64 (-19)] w fun e w' => e = .returned (.int .u32 ((rotr 19 x : Nat) : Int)) ∧ w = w' := by
 have hv := turn_19 x hx;have hc : IntKind.u64.wrap (-19) = 18446744073709551597 := by decide
 have ha : bits .and .u64 18446744073709551597 31 = 13 := by decide
 go_enter Tryz.func247, Tryz.ntmps247;go_wp2_with fail;go_ret;exact ⟨by first | rfl | rw [hv], rfl⟩
theorem rotate_19 (x : Nat) (hx : x < 4294967296) (w : World) : Calls Tryz.prog 216 #[.int .u32 (x : Int), .int .i64 19] w fun e w' => e = .returned (.int .u32 ((rotr 19 x : Nat) : Int)) ∧ w = w' := by
 have m1 := Lib.hid (fun W => left_19 x hx W);go_enter Tryz.func216, Tryz.ntmps216;go_wp2_with fail;refine (m1.out _).mono ?_;rintro e w' ⟨rfl, rfl⟩;go_wp2_with fail;go_ret;exact ⟨rfl, rfl⟩
theorem rot_19 (x : Nat) (hx : x < 4294967296) (w : World) : Calls Tryz.prog 184 #[.int .u32 (x : Int), .int .i64 19] w fun e w' => e = .returned (.int .u32 ((rotr 19 x : Nat) : Int)) ∧ ∃ n, w' = w.drewN n := by
 have hv := turn'_19 x hx;have hw : IntKind.i64.wrap (32 - 19) = 13 := by decide
 go_enter Tryz.func184, Tryz.ntmps184;go_wp2_with fail
 go_quiet (fail)
 go_wp2_with fail;go_ret;exact ⟨by first | rfl | rw [hv], _, rfl⟩
theorem turn_22 (x : Nat) (hx : x < 4294967296) : bits .or .u32 ((x : Int) * 1024 % 4294967296) ((x : Int) / 4194304) = ((rotr 22 x : Nat) : Int) := by
 rw [show (x : Int) * 1024 % 4294967296 = ((x * 2 ^ (32 - 22) % 4294967296 : Nat) : Int) by simp, show (x : Int) / 4194304 = ((x / 2 ^ 22 : Nat) : Int) by simp, u32_or_nat _ _ (mod32 _) (div32 _ hx), Nat.or_comm]
 rfl
theorem turn'_22 (x : Nat) (hx : x < 4294967296) : bits .or .u32 ((x : Int) / 4194304) ((x : Int) * 1024 % 4294967296) = ((rotr 22 x : Nat) : Int) := by
 rw [show (x : Int) * 1024 % 4294967296 = ((x * 2 ^ (32 - 22) % 4294967296 : Nat) : Int) by simp, show (x : Int) / 4194304 = ((x / 2 ^ 22 : Nat) : Int) by simp, u32_or_nat _ _ (div32 _ hx) (mod32 _)]
 rfl
theorem left_22 (x : Nat) (hx : x < 4294967296) (w : World) : Calls Tryz.prog 247 #[.int .u32 (x : Int), .int .i64 (-22)] w fun e w' => e = .returned (.int .u32 ((rotr 22 x : Nat) : Int)) ∧ w = w' := by
 have hv := turn_22 x hx;have hc : IntKind.u64.wrap (-22) = 18446744073709551594 := by decide
 have ha : bits .and .u64 18446744073709551594 31 = 10 := by decide
 go_enter Tryz.func247, Tryz.ntmps247;go_wp2_with fail;go_ret;exact ⟨by first | rfl | rw [hv], rfl⟩
theorem rotate_22 (x : Nat) (hx : x < 4294967296) (w : World) : Calls Tryz.prog 216 #[.int .u32 (x : Int), .int .i64 22] w fun e w' => e = .returned (.int .u32 ((rotr 22 x : Nat) : Int)) ∧ w = w' := by
 have m1 := Lib.hid (fun W => left_22 x hx W);go_enter Tryz.func216, Tryz.ntmps216;go_wp2_with fail;refine (m1.out _).mono ?_;rintro e w' ⟨rfl, rfl⟩;go_wp2_with fail;go_ret;exact ⟨rfl, rfl⟩
theorem rot_22 (x : Nat) (hx : x < 4294967296) (w : World) : Calls Tryz.prog 184 #[.int .u32 (x : Int), .int .i64 22] w fun e w' => e = .returned (.int .u32 ((rotr 22 x : Nat) : Int)) ∧ ∃ n, w' = w.drewN n := by
 have hv := turn'_22 x hx;have hw : IntKind.i64.wrap (32 - 22) = 10 := by decide
 go_enter Tryz.func184, Tryz.ntmps184;go_wp2_with fail
 go_quiet (fail)
 go_wp2_with fail;go_ret;exact ⟨by first | rfl | rw [hv], _, rfl⟩
theorem turn_25 (x : Nat) (hx : x < 4294967296) : bits .or .u32 ((x : Int) * 128 % 4294967296) ((x : Int) / 33554432) = ((rotr 25 x : Nat) : Int) := by
 rw [show (x : Int) * 128 % 4294967296 = ((x * 2 ^ (32 - 25) % 4294967296 : Nat) : Int) by simp, show (x : Int) / 33554432 = ((x / 2 ^ 25 : Nat) : Int) by simp, u32_or_nat _ _ (mod32 _) (div32 _ hx), Nat.or_comm]
 rfl
theorem turn'_25 (x : Nat) (hx : x < 4294967296) : bits .or .u32 ((x : Int) / 33554432) ((x : Int) * 128 % 4294967296) = ((rotr 25 x : Nat) : Int) := by
 rw [show (x : Int) * 128 % 4294967296 = ((x * 2 ^ (32 - 25) % 4294967296 : Nat) : Int) by simp, show (x : Int) / 33554432 = ((x / 2 ^ 25 : Nat) : Int) by simp, u32_or_nat _ _ (div32 _ hx) (mod32 _)]
 rfl
theorem left_25 (x : Nat) (hx : x < 4294967296) (w : World) : Calls Tryz.prog 247 #[.int .u32 (x : Int), .int .i64 (-25)] w fun e w' => e = .returned (.int .u32 ((rotr 25 x : Nat) : Int)) ∧ w = w' := by
 have hv := turn_25 x hx;have hc : IntKind.u64.wrap (-25) = 18446744073709551591 := by decide
 have ha : bits .and .u64 18446744073709551591 31 = 7 := by decide
 go_enter Tryz.func247, Tryz.ntmps247;go_wp2_with fail;go_ret;exact ⟨by first | rfl | rw [hv], rfl⟩
theorem rotate_25 (x : Nat) (hx : x < 4294967296) (w : World) : Calls Tryz.prog 216 #[.int .u32 (x : Int), .int .i64 25] w fun e w' => e = .returned (.int .u32 ((rotr 25 x : Nat) : Int)) ∧ w = w' := by
 have m1 := Lib.hid (fun W => left_25 x hx W);go_enter Tryz.func216, Tryz.ntmps216;go_wp2_with fail;refine (m1.out _).mono ?_;rintro e w' ⟨rfl, rfl⟩;go_wp2_with fail;go_ret;exact ⟨rfl, rfl⟩
theorem rot_25 (x : Nat) (hx : x < 4294967296) (w : World) : Calls Tryz.prog 184 #[.int .u32 (x : Int), .int .i64 25] w fun e w' => e = .returned (.int .u32 ((rotr 25 x : Nat) : Int)) ∧ ∃ n, w' = w.drewN n := by
 have hv := turn'_25 x hx;have hw : IntKind.i64.wrap (32 - 25) = 7 := by decide
 go_enter Tryz.func184, Tryz.ntmps184;go_wp2_with fail
 go_quiet (fail)
 go_wp2_with fail;go_ret;exact ⟨by first | rfl | rw [hv], _, rfl⟩
def KTab (w : World) : Prop := Lib.TabIs Tryz.prog w "sortes/digest.constants" .u32 (kS.map fun n : Nat => (n : Int))
theorem tab_block {w : World} {name : String} {k : IntKind} {zs : List Int} {g : Nat} (hg : Tryz.prog.globalNamed name = some g) (h : Lib.TabIs Tryz.prog w name k zs) : ∃ t fr, w.heap[g]? = some (.cells (zs.map fun z => Value.int k z).toArray t fr) := by
 unfold Lib.TabIs World.var? at h;rw [hg] at h;simp only [Option.bind_some] at h
 cases e : w.heap[g]? with
 | none => rw [e] at h; cases h
 | some o =>
   rw [e] at h
   cases o <;> simp at h
   rename_i cs t fr
   exact ⟨t, fr, by rw [h]⟩
theorem KTab.cell {w : World} (h : KTab w) {i : Nat} (hi : i < 64) : w.cell? ⟨1, i, none⟩ = some (.int .u32 ((kS.getD i 0 : Nat) : Int)) := by
 obtain ⟨t, fr, hb⟩ := tab_block (show Tryz.prog.globalNamed "sortes/digest.constants" = some 1 by kernel_rfl) h;rw [cell_of_row w _ i _ t fr hb, List.getD_eq_getElem?_getD, List.getElem?_eq_getElem (show i < kS.length from hi)]
 simp [show i < kS.length from hi]
theorem KTab.below {w w' : World} (h : KTab w) (hb : Below w.heap.size w w') : KTab w' := by
 have hg : Tryz.prog.globalNamed "sortes/digest.constants" = some 1 := by kernel_rfl
 unfold KTab Lib.TabIs World.var? at h ⊢;rw [hg] at h ⊢;simp only [Option.bind_some] at h ⊢;have hlt : 1 < w.heap.size := by
  rcases Nat.lt_or_ge 1 w.heap.size with hl | hl
  ·exact hl
  ·rw [Array.getElem?_eq_none hl] at h; cases h
 rw [hb.block _ hlt];exact h
theorem name3 {P : Program} {code : Code} {Q : Exit → Act → World → Prop} {act : Act} {W : World} {t1 t2 t3 : TypeId} {c1 c2 c3 : Array Value} (d1 d2 d3 : Array Value) (h1 : c1 = d1) (h2 : c2 = d2) (h3 : c3 = d3)
 (h : ∀ W0 : World, Blk W0 W.heap.size t1 d1 → Blk W0 (W.heap.size + 1) t2 d2 → Blk W0 (W.heap.size + 1 + 1) t3 d3 → Below W.heap.size W W0 → code.wp P Q act W0) :
 code.wp P Q act (((W.alloc (.cells c1 t1)).alloc (.cells c2 t2)).alloc (.cells c3 t3)) := by
 subst h1 h2 h3;refine h _ (((Blk.new _ _ _).alloc _).alloc _) ?_ ?_ (below_al (below_al (below_al (Below.refl _ _) _) _) _)
 ·have := (Blk.new (W.alloc (.cells c1 t1)) t2 c2).alloc (.cells c3 t3);rwa [World.size_alloc] at this
 ·have := Blk.new ((W.alloc (.cells c1 t1)).alloc (.cells c2 t2)) t3 c3;rwa [World.size_alloc, World.size_alloc] at this
theorem or_fill {p v : Nat} (hp : p < 16777216) (hv : v < 256) : bits .or .u32 ((p : Int) * 256) (v : Int) = ((p * 256 + v : Nat) : Int) := by
 have e := u32_or_nat (p * 256) v (by omega) (by omega);rw [show p * 256 = p * 2 ^ 8 by rfl, or_hi p v 8 (by omega)] at e
 simpa using e
theorem u32_xor2 {a b c : Nat} (ha : a < 4294967296) (hb : b < 4294967296) (hc : c < 4294967296) : bits .xor .u32 (bits .xor .u32 (a : Int) (b : Int)) (c : Int) = (((a ^^^ b) ^^^ c : Nat) : Int) := by
 rw [u32_xor_nat _ _ ha hb, u32_xor_nat _ _ (xor32 ha hb) hc]
theorem xs0 {x : Nat} (h : x < 4294967296) : bits .xor .u32 (bits .xor .u32 ((rotr 7 x : Nat) : Int) ((rotr 18 x : Nat) : Int)) ((x : Int) / 8) = ((sS0 x : Nat) : Int) := by
 rw [show (x : Int) / 8 = ((x / 8 : Nat) : Int) by simp];exact u32_xor2 (rotr_lt _ h) (rotr_lt _ h) (div32 _ h)
theorem xs1 {x : Nat} (h : x < 4294967296) : bits .xor .u32 (bits .xor .u32 ((rotr 17 x : Nat) : Int) ((rotr 19 x : Nat) : Int)) ((x : Int) / 1024) = ((sS1 x : Nat) : Int) := by
 rw [show (x : Int) / 1024 = ((x / 1024 : Nat) : Int) by simp];exact u32_xor2 (rotr_lt _ h) (rotr_lt _ h) (div32 _ h)
theorem sched_cur (b : List UInt8) {i : Nat} (hi : i < 64) : (schedS b i ++ List.replicate (64 - i) 0)[i]? = some 0 := by
 rw [List.getElem?_append_right (by rw [schedS_len]; exact Nat.le_refl _), schedS_len, Nat.sub_self, List.getElem?_replicate, if_pos (by omega)]
theorem kS_lt : ∀ x ∈ kS, x < 4294967296 := by decide +kernel
theorem sched_end (b : List UInt8) {i : Nat} (hi : i < 64) : (schedS b 64)[i]? = some ((schedS b 64).getD i 0) := by
 rw [List.getD_eq_getElem?_getD, List.getElem?_eq_getElem (by rw [schedS_len]; exact hi)]; rfl
theorem quiet_flip {f : FuncId} {args : Array Value} {v : Value} (h : ∀ W : World, Calls Tryz.prog f args W fun e w' => e = .returned v ∧ W = w') (W : World) : Calls Tryz.prog f args W fun e w' => e = .returned v ∧ w' = W :=
 (h W).mono fun _ _ ⟨h1, h2⟩ => ⟨h1, h2.symm⟩
theorem xnot {e : Nat} (he : e < 4294967296) : bits .xor .u32 IntKind.u32.max (e : Int) = ((4294967295 - e : Nat) : Int) := by
 have h := u32_xor_nat 4294967295 e (by omega) he;have h2 : 4294967295 ^^^ e = 4294967295 - e := by
  apply Nat.eq_of_testBit_eq
  intro i;rw [Nat.testBit_xor];rw [show (4294967295 : Nat) = 2 ^ 32 - 1 by rfl, Nat.testBit_two_pow_sub_one, show 2 ^ 32 - 1 - e = 2 ^ 32 - (e + 1) by omega, Nat.testBit_two_pow_sub_succ (by omega)]
  by_cases hi : i < 32
  ·simp [hi]
  ·simp only [hi, decide_false, Bool.false_and, Bool.false_xor];exact Nat.testBit_lt_two_pow (Nat.lt_of_lt_of_le (show e < 2 ^ 32 from he) (Nat.pow_le_pow_right (by omega) (by omega)))
 rw [← h2];exact h
theorem xch {e f g : Nat} (he : e < 4294967296) (hf : f < 4294967296) (hg : g < 4294967296) : bits .xor .u32 (bits .and .u32 (e : Int) (f : Int)) (bits .and .u32 (bits .xor .u32 IntKind.u32.max (e : Int)) (g : Int)) = ((chS e f g : Nat) : Int) := by
 rw [xnot he, u32_and_nat _ _ he hf, u32_and_nat _ _ (by omega) hg, u32_xor_nat _ _ (and32 he) (and32 (by omega))]
 rfl
theorem xmaj {a b c : Nat} (ha : a < 4294967296) (hb : b < 4294967296) (hc : c < 4294967296) : bits .xor .u32 (bits .xor .u32 (bits .and .u32 (a : Int) (b : Int)) (bits .and .u32 (a : Int) (c : Int))) (bits .and .u32 (b : Int) (c : Int)) = ((majS a b c : Nat) : Int) := by
 rw [u32_and_nat _ _ ha hb, u32_and_nat _ _ ha hc, u32_and_nat _ _ hb hc, u32_xor_nat _ _ (and32 ha) (and32 ha), u32_xor_nat _ _ (xor32 (and32 ha) (and32 ha)) (and32 hb)]
 rfl
theorem kept_set {w : World} {g k : Nat} {t : TypeId} {cs : Array Value} (h : Blk w g t cs) (hp : g ≠ k) (i : Nat) (u : Value) : Blk (w.setCell ⟨k, i, none⟩ u) g t cs := h.far (p := ⟨k, i, none⟩) hp u
theorem mix_any (st : List Nat) (hst : Eight st) (b : ByteArray) (hb : b.size = 64) (w : World) (hk : KTab w) :
 Calls Tryz.prog 173 #[.agg (u32s st), .string b] w fun e w' => e = .returned (.agg (u32s (mixS st b.data.toList))) ∧ Below w.heap.size w w' := by
 have HK := Lib.hid hk;have HST := Lib.hid hst;clear hk;obtain ⟨a0, b0, c0, d0, e0, f0, g0, h0, hl, la, lb, lc, ld, le, lf, lg, lh⟩ := eight_of hst;have HL := Lib.hid hl;clear hst;rw [HL.out];show Calls Tryz.prog 173 #[.agg #[.int .u32 (a0 : Int), .int .u32 (b0 : Int), .int .u32 (c0 : Int), .int .u32 (d0 : Int), .int .u32 (e0 : Int), .int .u32 (f0 : Int), .int .u32 (g0 : Int), .int .u32 (h0 : Int)], .string b] w fun e w' => e = .returned (.agg (u32s (mixS [a0, b0, c0, d0, e0, f0, g0, h0] b.data.toList))) ∧ Below w.heap.size w w';clear hl;obtain ⟨L, hL⟩ : ∃ L, b.data.toList = L := ⟨_, rfl⟩;rw [hL]
 have HBY : Hid (∀ (k : Nat) (hk : k < b.size), b[k].toNat = byteS L k) := Lib.hid (fun k hk => by
  rw [← hL]; unfold byteS; rw [List.getD_eq_getElem?_getD, List.getElem?_eq_getElem (by simpa using hk)]; rfl)
 clear hL;go_enter Tryz.func173, Tryz.ntmps173;go_upto_region 2 with fail;refine name3 (u32s [a0, b0, c0, d0, e0, f0, g0, h0]) (u32s (List.replicate 8 0)) (u32s (fillS L 0)) rfl rfl (by rw [fillS_zero]; rfl) ?_;intro W0 hkS hkR hkW hB;go_wp2_with fail
 go_loopw [6, 23] (fun _ s23 wr => ∃ i : Nat, i ≤ 64 ∧ s23 = .int .i64 (i : Int) ∧ Blk wr w.heap.size 183 (u32s [a0, b0, c0, d0, e0, f0, g0, h0]) ∧ Blk wr (w.heap.size + 1) 183 (u32s (List.replicate 8 0)) ∧ Blk wr (w.heap.size + 1 + 1) 239 (u32s (fillS L i)) ∧ Below w.heap.size w wr) (fun _ s23 _ => 64 - (intOf s23).toNat)
 case atStart => exact ⟨0, Nat.zero_le _, rfl, hkS, hkR, hkW, hB⟩
 case round =>
  obtain ⟨i, hi, rfl, hkS, hkR, hkW, hB⟩ := hrel
  by_cases hlt : i < 64
  ·obtain ⟨p, hp⟩ : ∃ p, p = pwS L (i / 4) (i % 4) := ⟨_, rfl⟩;have hcell := hkW.u32 (fillS_cur L hlt);have hpl := pwS_lt L (i / 4) (i % 4);rw [← hp] at hcell hpl;have hfz := hkW.frozen (i / 4);have f1 : (0 : Int) ≤ (i : Int) / 4 := by omega
   have f2 : (i : Int) / 4 < 64 := by omega
   have f3 : (0 : Int) ≤ (i : Int) := by omega
   have f4 : (i : Int) < (b.size : Int) := by omega
   have hby := HBY.out i (by omega);have hbl := byteS_lt L i;have hpl2 : p < 16777216 := Nat.lt_of_lt_of_le hpl (Nat.pow_le_pow_right (show 0 < 256 by omega) (show i % 4 ≤ 3 by omega));obtain ⟨v, hv⟩ : ∃ v, v = byteS L i := ⟨_, rfl⟩;rw [← hv] at hby hbl;have HV := Lib.hid hv;have HP := Lib.hid hp;clear hv hp hpl;go_upto_region 5 with fail
   go_region
   go_wp2_with fail;go_roundw
   case rel =>
    refine ⟨i + 1, by omega, by go_num, kept_set hkS (by omega) _ _, kept_set hkR (by omega) _ _, ?_, (below_set hB (p := ⟨w.heap.size + 1 + 1, i / 4, none⟩) (by show w.heap.size ≤ w.heap.size + 1 + 1; omega) _).drew⟩;rw [or_fill hpl2 hbl, HP.out, HV.out, ← fillS_set];exact hkW.put32 _ _
   case measure => simp [intOf]; omega
  ·obtain rfl : i = 64 := by omega
   rw [fillS_end] at hkW;go_wp2_with fail
   go_loopw [7, 8, 9, 10, 11] (fun s7 _ _ _ _ wr => ∃ i : Nat, 16 ≤ i ∧ i ≤ 64 ∧ s7 = .int .i64 (i : Int) ∧ Blk wr w.heap.size 183 (u32s [a0, b0, c0, d0, e0, f0, g0, h0]) ∧ Blk wr (w.heap.size + 1) 183 (u32s (List.replicate 8 0)) ∧ Blk wr (w.heap.size + 1 + 1) 239 (u32s (schedS L i ++ List.replicate (64 - i) 0)) ∧ Below w.heap.size w wr) (fun s7 _ _ _ _ _ => 64 - (intOf s7).toNat)
   case atStart => exact ⟨16, by omega, by omega, rfl, hkS, hkR, hkW, hB⟩
   case round =>
    obtain ⟨i, h16, hi, rfl, hkS, hkR, hkW, hB⟩ := hrel
    by_cases hlt : i < 64
    ·obtain ⟨x, hx⟩ : ∃ x, x = (schedS L i).getD (i - 15) 0 := ⟨_, rfl⟩;obtain ⟨y, hy⟩ : ∃ y, y = (schedS L i).getD (i - 2) 0 := ⟨_, rfl⟩;obtain ⟨u, hu⟩ : ∃ u, u = (schedS L i).getD (i - 16) 0 := ⟨_, rfl⟩;obtain ⟨v, hv⟩ : ∃ v, v = (schedS L i).getD (i - 7) 0 := ⟨_, rfl⟩;have cx := hkW.u32 (sched_at L (n := 64 - i) (show i - 15 < i by omega));have cy := hkW.u32 (sched_at L (n := 64 - i) (show i - 2 < i by omega));have cu := hkW.u32 (sched_at L (n := 64 - i) (show i - 16 < i by omega));have cv := hkW.u32 (sched_at L (n := 64 - i) (show i - 7 < i by omega));have lx := getD_lt (schedS_lt L i) (i - 15);have ly := getD_lt (schedS_lt L i) (i - 2);have lu := getD_lt (schedS_lt L i) (i - 16);have lv := getD_lt (schedS_lt L i) (i - 7);rw [← hx] at cx lx;rw [← hy] at cy ly;rw [← hu] at cu lu;rw [← hv] at cv lv;obtain ⟨jx, hjx⟩ : ∃ j, j = i - 15 := ⟨_, rfl⟩;obtain ⟨jy, hjy⟩ : ∃ j, j = i - 2 := ⟨_, rfl⟩;obtain ⟨ju, hju⟩ : ∃ j, j = i - 16 := ⟨_, rfl⟩;obtain ⟨jv, hjv⟩ : ∃ j, j = i - 7 := ⟨_, rfl⟩;rw [← hjx] at cx;rw [← hjy] at cy;rw [← hju] at cu;rw [← hjv] at cv;have ex : (i : Int) - 15 = (jx : Int) := by omega
     have ey : (i : Int) - 2 = (jy : Int) := by omega
     have eu : (i : Int) - 16 = (ju : Int) := by omega
     have ev : (i : Int) - 7 = (jv : Int) := by omega
     have bx : jx < 64 := by omega
     have bY : jy < 64 := by omega
     have bu : ju < 64 := by omega
     have bv : jv < 64 := by omega
     have hN : Hid ((u + sS0 x + v + sS1 y) % 4294967296 = nextS (schedS L i) i) := Lib.hid (by rw [hx, hy, hu, hv]; rfl);clear hx hy hu hv hjx hjy hju hjv;obtain ⟨s, hs⟩ : ∃ s, s = sS0 x := ⟨_, rfl⟩;obtain ⟨t, ht⟩ : ∃ t, t = sS1 y := ⟨_, rfl⟩;have q0 : bits .xor .u32 (bits .xor .u32 ((rotr 7 x : Nat) : Int) ((rotr 18 x : Nat) : Int)) ((x : Int) / 8) = (s : Int) := by rw [hs]; exact xs0 lx
     have q1 : bits .xor .u32 (bits .xor .u32 ((rotr 17 y : Nat) : Int) ((rotr 19 y : Nat) : Int)) ((y : Int) / 1024) = (t : Int) := by rw [ht]; exact xs1 ly
     have ls := sS0_lt lx;have lt := sS1_lt ly;rw [← hs, ← ht] at hN;rw [← hs] at ls;rw [← ht] at lt;clear hs ht;have m1 := Lib.hid (fun W => rotate_7 x lx W);have m2 := Lib.hid (fun W => rotate_18 x lx W);have m3 := Lib.hid (fun W => rotate_17 y ly W);have m4 := Lib.hid (fun W => rotate_19 y ly W);have hfz := hkW.frozen i;have ci := hkW.u32 (sched_cur L hlt);go_upto_region 10 with fail
     go_quiet (fail)
     go_wp2_with fail;refine (m1.out _).mono ?_;rintro e w' ⟨rfl, rfl⟩;go_wp2_with fail;refine (m2.out _).mono ?_;rintro e w' ⟨rfl, rfl⟩;go_wp2_with fail;refine (m3.out _).mono ?_;rintro e w' ⟨rfl, rfl⟩;go_wp2_with fail;refine (m4.out _).mono ?_;rintro e w' ⟨rfl, rfl⟩;go_upto_region 13 with fail
     go_region
     go_wp2_with fail;go_roundw
     case rel =>
      repeat apply Exists.intro
      refine ⟨?_, rfl⟩;refine ⟨i + 1, by omega, by omega, by go_num, kept_set hkS (by omega) _ _, kept_set hkR (by omega) _ _, ?_, (below_set (below_drewN hB (nq + 1)) (p := ⟨w.heap.size + 1 + 1, i, none⟩) (by show w.heap.size ≤ w.heap.size + 1 + 1; omega) _)⟩;have e : ((u : Int) + s + v + t) % 4294967296 = ((nextS (schedS L i) i : Nat) : Int) := by rw [← hN.out]; omega
      rw [e, ← sched_set L h16 hlt];exact (show Blk (wr.drewN (nq + 1)) _ _ _ from hkW).put32 _ _
     case measure => simp [intOf]; omega
    ·obtain rfl : i = 64 := by omega
     go_wp2_with fail;have cs : ∀ j x : Nat, [a0, b0, c0, d0, e0, f0, g0, h0][j]? = some x → wr.cell? ⟨w.heap.size, j, none⟩ = some (.int .u32 (x : Int)) := fun j x h => hkS.u32 h;have cs0 := cs 0 _ rfl;have cs1 := cs 1 _ rfl;have cs2 := cs 2 _ rfl;have cs3 := cs 3 _ rfl;have cs4 := cs 4 _ rfl;have cs5 := cs 5 _ rfl;have cs6 := cs 6 _ rfl;have cs7 := cs 7 _ rfl;clear cs
     go_quiet (fail)
     go_upto_region 15 with fail
     go_quiet (fail)
     go_wp2_with fail;clear cs0 cs1 cs2 cs3 cs4 cs5 cs6 cs7;have OK0 := (HST.out).of;rw [HL.out] at OK0;have hkW0 : Blk wr (w.heap.size + 1 + 1) 239 (u32s (schedS L 64)) := by
      have := hkW;rwa [show List.replicate (64 - 64) 0 = ([] : List Nat) from rfl, List.append_nil] at this
     clear hkW
     go_loopw [12, 13, 14, 15, 16, 17, 18, 19, 20, 21, 22, 99] (fun s12 s13 s14 s15 s16 s17 s18 s19 _ _ _ s99 wr => ∃ (i : Nat) (S : St), i ≤ 64 ∧ s99 = .int .i64 (i : Int) ∧ s12 = .int .u32 (S.a : Int) ∧ s13 = .int .u32 (S.b : Int) ∧ s14 = .int .u32 (S.c : Int) ∧ s15 = .int .u32 (S.d : Int) ∧ s16 = .int .u32 (S.e : Int) ∧ s17 = .int .u32 (S.f : Int) ∧ s18 = .int .u32 (S.g : Int) ∧ s19 = .int .u32 (S.h : Int) ∧ Hid (S = stepsS (schedS L 64) (St.of [a0, b0, c0, d0, e0, f0, g0, h0]) i) ∧ Blk wr w.heap.size 183 (u32s [a0, b0, c0, d0, e0, f0, g0, h0]) ∧ Blk wr (w.heap.size + 1) 183 (u32s (List.replicate 8 0)) ∧ Blk wr (w.heap.size + 1 + 1) 239 (u32s (schedS L 64)) ∧ Below w.heap.size w wr) (fun _ _ _ _ _ _ _ _ _ _ _ s99 _ => 64 - (intOf s99).toNat)
     case atStart => exact ⟨0, _, by omega, rfl, rfl, rfl, rfl, rfl, rfl, rfl, rfl, rfl, Lib.hid rfl, hkS, hkR, hkW0, below_drewN (below_drewN hB _) _⟩
     case round =>
      obtain ⟨i, ⟨a, b', c, d, e, f, g, h8⟩, hi, rfl, rfl, rfl, rfl, rfl, rfl, rfl, rfl, rfl, HS, hkS, hkR, hkW, hB⟩ := hrel;dsimp only
      by_cases hlt : i < 64
      ·obtain ⟨k, hk⟩ : ∃ k, k = kS.getD i 0 := ⟨_, rfl⟩;obtain ⟨x, hx⟩ : ∃ x, x = (schedS L 64).getD i 0 := ⟨_, rfl⟩;have ck := (HK.out.below hB).cell hlt;have cx := hkW.u32 (sched_end L hlt);have lk := getD_lt kS_lt i;have lx := getD_lt (schedS_lt L 64) i;have ok := steps_ok OK0 (schedS L 64) i;rw [← HS.out] at ok;obtain ⟨la, lb, lc, ld, le, lf, lg, lh⟩ := ok;dsimp only at la lb lc ld le lf lg lh;rw [← hk] at ck lk;rw [← hx] at cx lx;have HKX := Lib.hid (And.intro hk hx);clear hk hx;have m1 := Lib.hid (quiet_flip (fun W => rotate_6 e le W));have m2 := Lib.hid (quiet_flip (fun W => rotate_11 e le W));have m3 := Lib.hid (quiet_flip (fun W => rotate_25 e le W));have m4 := Lib.hid (fun W => rotate_2 a la W);have m5 := Lib.hid (fun W => rotate_13 a la W);have m6 := Lib.hid (fun W => rotate_22 a la W);obtain ⟨p1, hp1⟩ : ∃ p, p = bS1 e := ⟨_, rfl⟩;obtain ⟨p2, hp2⟩ : ∃ p, p = chS e f g := ⟨_, rfl⟩;obtain ⟨p3, hp3⟩ : ∃ p, p = bS0 a := ⟨_, rfl⟩;obtain ⟨p4, hp4⟩ : ∃ p, p = majS a b' c := ⟨_, rfl⟩;have r1 : bits .xor .u32 (bits .xor .u32 ((rotr 6 e : Nat) : Int) ((rotr 11 e : Nat) : Int)) ((rotr 25 e : Nat) : Int) = (p1 : Int) := by rw [hp1]; exact u32_xor2 (rotr_lt _ le) (rotr_lt _ le) (rotr_lt _ le)
       have r2 : bits .xor .u32 (bits .and .u32 (e : Int) (f : Int)) (bits .and .u32 (bits .xor .u32 IntKind.u32.max (e : Int)) (g : Int)) = (p2 : Int) := by rw [hp2]; exact xch le lf lg
       have r3 : bits .xor .u32 (bits .xor .u32 ((rotr 2 a : Nat) : Int) ((rotr 13 a : Nat) : Int)) ((rotr 22 a : Nat) : Int) = (p3 : Int) := by rw [hp3]; exact u32_xor2 (rotr_lt _ la) (rotr_lt _ la) (rotr_lt _ la)
       have r4 : bits .xor .u32 (bits .xor .u32 (bits .and .u32 (a : Int) (b' : Int)) (bits .and .u32 (a : Int) (c : Int))) (bits .and .u32 (b' : Int) (c : Int)) = (p4 : Int) := by rw [hp4]; exact xmaj la lb lc
       have hsg : IntKind.u32.signed = false := rfl;have HP1 := Lib.hid (And.intro (And.intro hp1 hp2) (And.intro hp3 hp4));clear hp1 hp2 hp3 hp4;go_upto_region 19 with fail
       go_quiet (first
        | (go_at_call 216; with_reducible exact Calls.quiet_of_same (m1.out _))
        | (go_at_call 216; with_reducible exact Calls.quiet_of_same (m2.out _))
        | (go_at_call 216; with_reducible exact Calls.quiet_of_same (m3.out _)))
       go_wp2_with fail;refine (m4.out _).mono ?_;rintro e w' ⟨rfl, rfl⟩;go_wp2_with fail;refine (m5.out _).mono ?_;rintro e w' ⟨rfl, rfl⟩;go_wp2_with fail;refine (m6.out _).mono ?_;rintro e w' ⟨rfl, rfl⟩;go_wp2_with fail;go_roundw
       case rel =>
        repeat apply Exists.intro
        refine ⟨?_, rfl⟩;refine ⟨i + 1, St.step ⟨a, b', c, d, e, f, g, h8⟩ k x, by omega, by go_num, ?_, rfl, rfl, rfl, ?_, rfl, rfl, rfl, ?_, hkS, hkR, hkW, below_drewN hB _⟩
        ·refine congrArg (Value.int .u32) ?_;show _ = ((((h8 + bS1 e + chS e f g + k + x) % 4294967296 + (bS0 a + majS a b' c) % 4294967296) % 4294967296 : Nat) : Int);rw [← HP1.out.1.1, ← HP1.out.1.2, ← HP1.out.2.1, ← HP1.out.2.2]
         omega
        ·refine congrArg (Value.int .u32) ?_;show _ = (((d + (h8 + bS1 e + chS e f g + k + x) % 4294967296) % 4294967296 : Nat) : Int);rw [← HP1.out.1.1, ← HP1.out.1.2]
         omega
        ·refine Lib.hid ?_;show _ = (stepsS (schedS L 64) (St.of [a0, b0, c0, d0, e0, f0, g0, h0]) i).step _ _;rw [← HS.out, ← HKX.out.1, ← HKX.out.2]
       case measure => simp [intOf]; omega
      ·obtain rfl : i = 64 := by omega
       have cs : ∀ j x : Nat, [a0, b0, c0, d0, e0, f0, g0, h0][j]? = some x → wr.cell? ⟨w.heap.size, j, none⟩ = some (.int .u32 (x : Int)) := fun j x h => hkS.u32 h;have cs0 := cs 0 _ rfl;have cs1 := cs 1 _ rfl;have cs2 := cs 2 _ rfl;have cs3 := cs 3 _ rfl;have cs4 := cs 4 _ rfl;have cs5 := cs 5 _ rfl;have cs6 := cs 6 _ rfl;have cs7 := cs 7 _ rfl;clear cs;have cr : ∀ j, j < 8 → wr.cell? ⟨w.heap.size + 1, j, none⟩ = some (.int .u32 0) := fun j hj => hkR.u32 (d := 0) (by rw [List.getElem?_replicate, if_pos hj]);have cr0 := cr 0 (by omega);have cr1 := cr 1 (by omega);have cr2 := cr 2 (by omega);have cr3 := cr 3 (by omega);have cr4 := cr 4 (by omega);have cr5 := cr 5 (by omega);have cr6 := cr 6 (by omega);have cr7 := cr 7 (by omega);clear cr;have cz := fun j => hkR.frozen j;have cz0 := cz 0;have cz1 := cz 1;have cz2 := cz 2;have cz3 := cz 3;have cz4 := cz 4;have cz5 := cz 5;have cz6 := cz 6;have cz7 := cz 7;clear cz;go_wp2_with fail;have hm : mixS [a0, b0, c0, d0, e0, f0, g0, h0] L = [(a0 + a) % 4294967296, (b0 + b') % 4294967296, (c0 + c) % 4294967296, (d0 + d) % 4294967296, (e0 + e) % 4294967296, (f0 + f) % 4294967296, (g0 + g) % 4294967296, (h0 + h8) % 4294967296] := by
        unfold mixS;rw [← HS.out]
        rfl
       rw [hm];have hblk := ((((((((hkR.set_ 0 (.int .u32 (((a0 : Int) + a) % 4294967296))).set_ 1 (.int .u32 (((b0 : Int) + b') % 4294967296))).set_ 2 (.int .u32 (((c0 : Int) + c) % 4294967296))).set_ 3 (.int .u32 (((d0 : Int) + d) % 4294967296))).set_ 4 (.int .u32 (((e0 : Int) + e) % 4294967296))).set_ 5 (.int .u32 (((f0 : Int) + f) % 4294967296))).set_ 6 (.int .u32 (((g0 : Int) + g) % 4294967296))).set_ 7 (.int .u32 (((h0 : Int) + h8) % 4294967296)));refine bodyPost_ret (results_cell_row (p := 4) (ty := 183) rfl _ _ (w.heap.size + 1) _ (u32s [(a0 + a) % 4294967296, (b0 + b') % 4294967296, (c0 + c) % 4294967296, (d0 + d) % 4294967296, (e0 + e) % 4294967296, (f0 + f) % 4294967296, (g0 + g) % 4294967296, (h0 + h8) % 4294967296]) (0, 0) _ rfl hblk Tryz.underlying183 rfl (by kernel_rfl)) rfl ?_;refine ⟨rfl, ?_⟩
       repeat (refine below_set ?_ (Nat.le_succ _) _)
       exact hB
end Go.Proofs.YtkpinmejfdnhbaaGreatDoor
