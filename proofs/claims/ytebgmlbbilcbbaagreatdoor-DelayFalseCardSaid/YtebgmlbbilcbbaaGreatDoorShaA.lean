/- Words of 32 bits turned: math/bits.RotateLeft32, digest.rotate, rot of the reference. Printed by a program. -/
import Derived.Test.YtebgmlbbilcbbaaGreatDoorNatOne
import Derived.Test.YtebgmlbbilcbbaaGreatDoorPlainSha
import Derived.Deep.QuietTactic
import Derived.BigQuiet
namespace Go.Proofs.YtebgmlbbilcbbaaGreatDoor
open Go.RowKit

theorem u32_wrap_nat (n : Nat) : IntKind.u32.wrap (n : Int) = ((n % 4294967296 : Nat) : Int) := by simp [IntKind.wrap, IntKind.bits, IntKind.signed]
theorem u8_wrap_nat (n : Nat) : IntKind.u8.wrap (n : Int) = ((n % 256 : Nat) : Int) := by simp [IntKind.wrap, IntKind.bits, IntKind.signed]

theorem turn_2 (x : Nat) (hx : x < 4294967296) : bits .or .u32 ((x : Int) * 1073741824 % 4294967296) ((x : Int) / 4) = ((rotr 2 x : Nat) : Int) := by
  rw [show (x : Int) * 1073741824 % 4294967296 = ((x * 2 ^ (32 - 2) % 4294967296 : Nat) : Int) by simp, show (x : Int) / 4 = ((x / 2 ^ 2 : Nat) : Int) by simp, u32_or_nat _ _ (mod32 _) (div32 _ hx), Nat.or_comm]
  rfl
theorem turn'_2 (x : Nat) (hx : x < 4294967296) : bits .or .u32 ((x : Int) / 4) ((x : Int) * 1073741824 % 4294967296) = ((rotr 2 x : Nat) : Int) := by
  rw [show (x : Int) * 1073741824 % 4294967296 = ((x * 2 ^ (32 - 2) % 4294967296 : Nat) : Int) by simp, show (x : Int) / 4 = ((x / 2 ^ 2 : Nat) : Int) by simp, u32_or_nat _ _ (div32 _ hx) (mod32 _)]
  rfl
set_option maxRecDepth 100000 in
theorem left_2 (x : Nat) (hx : x < 4294967296) (w : World) : Calls Tryz.prog 210 #[.int .u32 (x : Int), .int .i64 (-2)] w fun e w' => e = .returned (.int .u32 ((rotr 2 x : Nat) : Int)) ∧ w = w' := by
  have hv := turn_2 x hx
  have hc : IntKind.u64.wrap (-2) = 18446744073709551614 := by decide
  have ha : bits .and .u64 18446744073709551614 31 = 30 := by decide
  go_enter Tryz.func210, Tryz.ntmps210
  go_wp2_with fail
  go_ret
  exact ⟨by first | rfl | rw [hv], rfl⟩
theorem rotate_2 (x : Nat) (hx : x < 4294967296) (w : World) : Calls Tryz.prog 172 #[.int .u32 (x : Int), .int .i64 2] w fun e w' => e = .returned (.int .u32 ((rotr 2 x : Nat) : Int)) ∧ w = w' := by
  have m1 := Lib.hid (fun W => left_2 x hx W)
  go_enter Tryz.func172, Tryz.ntmps172
  go_wp2_with fail
  refine (m1.out _).mono ?_
  rintro e w' ⟨rfl, rfl⟩
  go_wp2_with fail
  go_ret
  exact ⟨rfl, rfl⟩
theorem rot_2 (x : Nat) (hx : x < 4294967296) (w : World) : Calls Tryz.prog 159 #[.int .u32 (x : Int), .int .i64 2] w fun e w' => e = .returned (.int .u32 ((rotr 2 x : Nat) : Int)) ∧ ∃ n, w' = w.drewN n := by
  have hv := turn'_2 x hx
  have hw : IntKind.i64.wrap (32 - 2) = 30 := by decide
  go_enter Tryz.func159, Tryz.ntmps159
  go_wp2_with fail
  go_quiet (fail)
  go_wp2_with fail
  go_ret
  exact ⟨by first | rfl | rw [hv], _, rfl⟩

theorem turn_6 (x : Nat) (hx : x < 4294967296) : bits .or .u32 ((x : Int) * 67108864 % 4294967296) ((x : Int) / 64) = ((rotr 6 x : Nat) : Int) := by
  rw [show (x : Int) * 67108864 % 4294967296 = ((x * 2 ^ (32 - 6) % 4294967296 : Nat) : Int) by simp, show (x : Int) / 64 = ((x / 2 ^ 6 : Nat) : Int) by simp, u32_or_nat _ _ (mod32 _) (div32 _ hx), Nat.or_comm]
  rfl
theorem turn'_6 (x : Nat) (hx : x < 4294967296) : bits .or .u32 ((x : Int) / 64) ((x : Int) * 67108864 % 4294967296) = ((rotr 6 x : Nat) : Int) := by
  rw [show (x : Int) * 67108864 % 4294967296 = ((x * 2 ^ (32 - 6) % 4294967296 : Nat) : Int) by simp, show (x : Int) / 64 = ((x / 2 ^ 6 : Nat) : Int) by simp, u32_or_nat _ _ (div32 _ hx) (mod32 _)]
  rfl
set_option maxRecDepth 100000 in
theorem left_6 (x : Nat) (hx : x < 4294967296) (w : World) : Calls Tryz.prog 210 #[.int .u32 (x : Int), .int .i64 (-6)] w fun e w' => e = .returned (.int .u32 ((rotr 6 x : Nat) : Int)) ∧ w = w' := by
  have hv := turn_6 x hx
  have hc : IntKind.u64.wrap (-6) = 18446744073709551610 := by decide
  have ha : bits .and .u64 18446744073709551610 31 = 26 := by decide
  go_enter Tryz.func210, Tryz.ntmps210
  go_wp2_with fail
  go_ret
  exact ⟨by first | rfl | rw [hv], rfl⟩
theorem rotate_6 (x : Nat) (hx : x < 4294967296) (w : World) : Calls Tryz.prog 172 #[.int .u32 (x : Int), .int .i64 6] w fun e w' => e = .returned (.int .u32 ((rotr 6 x : Nat) : Int)) ∧ w = w' := by
  have m1 := Lib.hid (fun W => left_6 x hx W)
  go_enter Tryz.func172, Tryz.ntmps172
  go_wp2_with fail
  refine (m1.out _).mono ?_
  rintro e w' ⟨rfl, rfl⟩
  go_wp2_with fail
  go_ret
  exact ⟨rfl, rfl⟩
theorem rot_6 (x : Nat) (hx : x < 4294967296) (w : World) : Calls Tryz.prog 159 #[.int .u32 (x : Int), .int .i64 6] w fun e w' => e = .returned (.int .u32 ((rotr 6 x : Nat) : Int)) ∧ ∃ n, w' = w.drewN n := by
  have hv := turn'_6 x hx
  have hw : IntKind.i64.wrap (32 - 6) = 26 := by decide
  go_enter Tryz.func159, Tryz.ntmps159
  go_wp2_with fail
  go_quiet (fail)
  go_wp2_with fail
  go_ret
  exact ⟨by first | rfl | rw [hv], _, rfl⟩

theorem turn_7 (x : Nat) (hx : x < 4294967296) : bits .or .u32 ((x : Int) * 33554432 % 4294967296) ((x : Int) / 128) = ((rotr 7 x : Nat) : Int) := by
  rw [show (x : Int) * 33554432 % 4294967296 = ((x * 2 ^ (32 - 7) % 4294967296 : Nat) : Int) by simp, show (x : Int) / 128 = ((x / 2 ^ 7 : Nat) : Int) by simp, u32_or_nat _ _ (mod32 _) (div32 _ hx), Nat.or_comm]
  rfl
theorem turn'_7 (x : Nat) (hx : x < 4294967296) : bits .or .u32 ((x : Int) / 128) ((x : Int) * 33554432 % 4294967296) = ((rotr 7 x : Nat) : Int) := by
  rw [show (x : Int) * 33554432 % 4294967296 = ((x * 2 ^ (32 - 7) % 4294967296 : Nat) : Int) by simp, show (x : Int) / 128 = ((x / 2 ^ 7 : Nat) : Int) by simp, u32_or_nat _ _ (div32 _ hx) (mod32 _)]
  rfl
set_option maxRecDepth 100000 in
theorem left_7 (x : Nat) (hx : x < 4294967296) (w : World) : Calls Tryz.prog 210 #[.int .u32 (x : Int), .int .i64 (-7)] w fun e w' => e = .returned (.int .u32 ((rotr 7 x : Nat) : Int)) ∧ w = w' := by
  have hv := turn_7 x hx
  have hc : IntKind.u64.wrap (-7) = 18446744073709551609 := by decide
  have ha : bits .and .u64 18446744073709551609 31 = 25 := by decide
  go_enter Tryz.func210, Tryz.ntmps210
  go_wp2_with fail
  go_ret
  exact ⟨by first | rfl | rw [hv], rfl⟩
theorem rotate_7 (x : Nat) (hx : x < 4294967296) (w : World) : Calls Tryz.prog 172 #[.int .u32 (x : Int), .int .i64 7] w fun e w' => e = .returned (.int .u32 ((rotr 7 x : Nat) : Int)) ∧ w = w' := by
  have m1 := Lib.hid (fun W => left_7 x hx W)
  go_enter Tryz.func172, Tryz.ntmps172
  go_wp2_with fail
  refine (m1.out _).mono ?_
  rintro e w' ⟨rfl, rfl⟩
  go_wp2_with fail
  go_ret
  exact ⟨rfl, rfl⟩
theorem rot_7 (x : Nat) (hx : x < 4294967296) (w : World) : Calls Tryz.prog 159 #[.int .u32 (x : Int), .int .i64 7] w fun e w' => e = .returned (.int .u32 ((rotr 7 x : Nat) : Int)) ∧ ∃ n, w' = w.drewN n := by
  have hv := turn'_7 x hx
  have hw : IntKind.i64.wrap (32 - 7) = 25 := by decide
  go_enter Tryz.func159, Tryz.ntmps159
  go_wp2_with fail
  go_quiet (fail)
  go_wp2_with fail
  go_ret
  exact ⟨by first | rfl | rw [hv], _, rfl⟩

theorem turn_11 (x : Nat) (hx : x < 4294967296) : bits .or .u32 ((x : Int) * 2097152 % 4294967296) ((x : Int) / 2048) = ((rotr 11 x : Nat) : Int) := by
  rw [show (x : Int) * 2097152 % 4294967296 = ((x * 2 ^ (32 - 11) % 4294967296 : Nat) : Int) by simp, show (x : Int) / 2048 = ((x / 2 ^ 11 : Nat) : Int) by simp, u32_or_nat _ _ (mod32 _) (div32 _ hx), Nat.or_comm]
  rfl
theorem turn'_11 (x : Nat) (hx : x < 4294967296) : bits .or .u32 ((x : Int) / 2048) ((x : Int) * 2097152 % 4294967296) = ((rotr 11 x : Nat) : Int) := by
  rw [show (x : Int) * 2097152 % 4294967296 = ((x * 2 ^ (32 - 11) % 4294967296 : Nat) : Int) by simp, show (x : Int) / 2048 = ((x / 2 ^ 11 : Nat) : Int) by simp, u32_or_nat _ _ (div32 _ hx) (mod32 _)]
  rfl
set_option maxRecDepth 100000 in
theorem left_11 (x : Nat) (hx : x < 4294967296) (w : World) : Calls Tryz.prog 210 #[.int .u32 (x : Int), .int .i64 (-11)] w fun e w' => e = .returned (.int .u32 ((rotr 11 x : Nat) : Int)) ∧ w = w' := by
  have hv := turn_11 x hx
  have hc : IntKind.u64.wrap (-11) = 18446744073709551605 := by decide
  have ha : bits .and .u64 18446744073709551605 31 = 21 := by decide
  go_enter Tryz.func210, Tryz.ntmps210
  go_wp2_with fail
  go_ret
  exact ⟨by first | rfl | rw [hv], rfl⟩
theorem rotate_11 (x : Nat) (hx : x < 4294967296) (w : World) : Calls Tryz.prog 172 #[.int .u32 (x : Int), .int .i64 11] w fun e w' => e = .returned (.int .u32 ((rotr 11 x : Nat) : Int)) ∧ w = w' := by
  have m1 := Lib.hid (fun W => left_11 x hx W)
  go_enter Tryz.func172, Tryz.ntmps172
  go_wp2_with fail
  refine (m1.out _).mono ?_
  rintro e w' ⟨rfl, rfl⟩
  go_wp2_with fail
  go_ret
  exact ⟨rfl, rfl⟩
theorem rot_11 (x : Nat) (hx : x < 4294967296) (w : World) : Calls Tryz.prog 159 #[.int .u32 (x : Int), .int .i64 11] w fun e w' => e = .returned (.int .u32 ((rotr 11 x : Nat) : Int)) ∧ ∃ n, w' = w.drewN n := by
  have hv := turn'_11 x hx
  have hw : IntKind.i64.wrap (32 - 11) = 21 := by decide
  go_enter Tryz.func159, Tryz.ntmps159
  go_wp2_with fail
  go_quiet (fail)
  go_wp2_with fail
  go_ret
  exact ⟨by first | rfl | rw [hv], _, rfl⟩

theorem turn_13 (x : Nat) (hx : x < 4294967296) : bits .or .u32 ((x : Int) * 524288 % 4294967296) ((x : Int) / 8192) = ((rotr 13 x : Nat) : Int) := by
  rw [show (x : Int) * 524288 % 4294967296 = ((x * 2 ^ (32 - 13) % 4294967296 : Nat) : Int) by simp, show (x : Int) / 8192 = ((x / 2 ^ 13 : Nat) : Int) by simp, u32_or_nat _ _ (mod32 _) (div32 _ hx), Nat.or_comm]
  rfl
theorem turn'_13 (x : Nat) (hx : x < 4294967296) : bits .or .u32 ((x : Int) / 8192) ((x : Int) * 524288 % 4294967296) = ((rotr 13 x : Nat) : Int) := by
  rw [show (x : Int) * 524288 % 4294967296 = ((x * 2 ^ (32 - 13) % 4294967296 : Nat) : Int) by simp, show (x : Int) / 8192 = ((x / 2 ^ 13 : Nat) : Int) by simp, u32_or_nat _ _ (div32 _ hx) (mod32 _)]
  rfl
set_option maxRecDepth 100000 in
theorem left_13 (x : Nat) (hx : x < 4294967296) (w : World) : Calls Tryz.prog 210 #[.int .u32 (x : Int), .int .i64 (-13)] w fun e w' => e = .returned (.int .u32 ((rotr 13 x : Nat) : Int)) ∧ w = w' := by
  have hv := turn_13 x hx
  have hc : IntKind.u64.wrap (-13) = 18446744073709551603 := by decide
  have ha : bits .and .u64 18446744073709551603 31 = 19 := by decide
  go_enter Tryz.func210, Tryz.ntmps210
  go_wp2_with fail
  go_ret
  exact ⟨by first | rfl | rw [hv], rfl⟩
theorem rotate_13 (x : Nat) (hx : x < 4294967296) (w : World) : Calls Tryz.prog 172 #[.int .u32 (x : Int), .int .i64 13] w fun e w' => e = .returned (.int .u32 ((rotr 13 x : Nat) : Int)) ∧ w = w' := by
  have m1 := Lib.hid (fun W => left_13 x hx W)
  go_enter Tryz.func172, Tryz.ntmps172
  go_wp2_with fail
  refine (m1.out _).mono ?_
  rintro e w' ⟨rfl, rfl⟩
  go_wp2_with fail
  go_ret
  exact ⟨rfl, rfl⟩
theorem rot_13 (x : Nat) (hx : x < 4294967296) (w : World) : Calls Tryz.prog 159 #[.int .u32 (x : Int), .int .i64 13] w fun e w' => e = .returned (.int .u32 ((rotr 13 x : Nat) : Int)) ∧ ∃ n, w' = w.drewN n := by
  have hv := turn'_13 x hx
  have hw : IntKind.i64.wrap (32 - 13) = 19 := by decide
  go_enter Tryz.func159, Tryz.ntmps159
  go_wp2_with fail
  go_quiet (fail)
  go_wp2_with fail
  go_ret
  exact ⟨by first | rfl | rw [hv], _, rfl⟩

theorem turn_17 (x : Nat) (hx : x < 4294967296) : bits .or .u32 ((x : Int) * 32768 % 4294967296) ((x : Int) / 131072) = ((rotr 17 x : Nat) : Int) := by
  rw [show (x : Int) * 32768 % 4294967296 = ((x * 2 ^ (32 - 17) % 4294967296 : Nat) : Int) by simp, show (x : Int) / 131072 = ((x / 2 ^ 17 : Nat) : Int) by simp, u32_or_nat _ _ (mod32 _) (div32 _ hx), Nat.or_comm]
  rfl
theorem turn'_17 (x : Nat) (hx : x < 4294967296) : bits .or .u32 ((x : Int) / 131072) ((x : Int) * 32768 % 4294967296) = ((rotr 17 x : Nat) : Int) := by
  rw [show (x : Int) * 32768 % 4294967296 = ((x * 2 ^ (32 - 17) % 4294967296 : Nat) : Int) by simp, show (x : Int) / 131072 = ((x / 2 ^ 17 : Nat) : Int) by simp, u32_or_nat _ _ (div32 _ hx) (mod32 _)]
  rfl
set_option maxRecDepth 100000 in
theorem left_17 (x : Nat) (hx : x < 4294967296) (w : World) : Calls Tryz.prog 210 #[.int .u32 (x : Int), .int .i64 (-17)] w fun e w' => e = .returned (.int .u32 ((rotr 17 x : Nat) : Int)) ∧ w = w' := by
  have hv := turn_17 x hx
  have hc : IntKind.u64.wrap (-17) = 18446744073709551599 := by decide
  have ha : bits .and .u64 18446744073709551599 31 = 15 := by decide
  go_enter Tryz.func210, Tryz.ntmps210
  go_wp2_with fail
  go_ret
  exact ⟨by first | rfl | rw [hv], rfl⟩
theorem rotate_17 (x : Nat) (hx : x < 4294967296) (w : World) : Calls Tryz.prog 172 #[.int .u32 (x : Int), .int .i64 17] w fun e w' => e = .returned (.int .u32 ((rotr 17 x : Nat) : Int)) ∧ w = w' := by
  have m1 := Lib.hid (fun W => left_17 x hx W)
  go_enter Tryz.func172, Tryz.ntmps172
  go_wp2_with fail
  refine (m1.out _).mono ?_
  rintro e w' ⟨rfl, rfl⟩
  go_wp2_with fail
  go_ret
  exact ⟨rfl, rfl⟩
theorem rot_17 (x : Nat) (hx : x < 4294967296) (w : World) : Calls Tryz.prog 159 #[.int .u32 (x : Int), .int .i64 17] w fun e w' => e = .returned (.int .u32 ((rotr 17 x : Nat) : Int)) ∧ ∃ n, w' = w.drewN n := by
  have hv := turn'_17 x hx
  have hw : IntKind.i64.wrap (32 - 17) = 15 := by decide
  go_enter Tryz.func159, Tryz.ntmps159
  go_wp2_with fail
  go_quiet (fail)
  go_wp2_with fail
  go_ret
  exact ⟨by first | rfl | rw [hv], _, rfl⟩

theorem turn_18 (x : Nat) (hx : x < 4294967296) : bits .or .u32 ((x : Int) * 16384 % 4294967296) ((x : Int) / 262144) = ((rotr 18 x : Nat) : Int) := by
  rw [show (x : Int) * 16384 % 4294967296 = ((x * 2 ^ (32 - 18) % 4294967296 : Nat) : Int) by simp, show (x : Int) / 262144 = ((x / 2 ^ 18 : Nat) : Int) by simp, u32_or_nat _ _ (mod32 _) (div32 _ hx), Nat.or_comm]
  rfl
theorem turn'_18 (x : Nat) (hx : x < 4294967296) : bits .or .u32 ((x : Int) / 262144) ((x : Int) * 16384 % 4294967296) = ((rotr 18 x : Nat) : Int) := by
  rw [show (x : Int) * 16384 % 4294967296 = ((x * 2 ^ (32 - 18) % 4294967296 : Nat) : Int) by simp, show (x : Int) / 262144 = ((x / 2 ^ 18 : Nat) : Int) by simp, u32_or_nat _ _ (div32 _ hx) (mod32 _)]
  rfl
set_option maxRecDepth 100000 in
theorem left_18 (x : Nat) (hx : x < 4294967296) (w : World) : Calls Tryz.prog 210 #[.int .u32 (x : Int), .int .i64 (-18)] w fun e w' => e = .returned (.int .u32 ((rotr 18 x : Nat) : Int)) ∧ w = w' := by
  have hv := turn_18 x hx
  have hc : IntKind.u64.wrap (-18) = 18446744073709551598 := by decide
  have ha : bits .and .u64 18446744073709551598 31 = 14 := by decide
  go_enter Tryz.func210, Tryz.ntmps210
  go_wp2_with fail
  go_ret
  exact ⟨by first | rfl | rw [hv], rfl⟩
theorem rotate_18 (x : Nat) (hx : x < 4294967296) (w : World) : Calls Tryz.prog 172 #[.int .u32 (x : Int), .int .i64 18] w fun e w' => e = .returned (.int .u32 ((rotr 18 x : Nat) : Int)) ∧ w = w' := by
  have m1 := Lib.hid (fun W => left_18 x hx W)
  go_enter Tryz.func172, Tryz.ntmps172
  go_wp2_with fail
  refine (m1.out _).mono ?_
  rintro e w' ⟨rfl, rfl⟩
  go_wp2_with fail
  go_ret
  exact ⟨rfl, rfl⟩
theorem rot_18 (x : Nat) (hx : x < 4294967296) (w : World) : Calls Tryz.prog 159 #[.int .u32 (x : Int), .int .i64 18] w fun e w' => e = .returned (.int .u32 ((rotr 18 x : Nat) : Int)) ∧ ∃ n, w' = w.drewN n := by
  have hv := turn'_18 x hx
  have hw : IntKind.i64.wrap (32 - 18) = 14 := by decide
  go_enter Tryz.func159, Tryz.ntmps159
  go_wp2_with fail
  go_quiet (fail)
  go_wp2_with fail
  go_ret
  exact ⟨by first | rfl | rw [hv], _, rfl⟩

theorem turn_19 (x : Nat) (hx : x < 4294967296) : bits .or .u32 ((x : Int) * 8192 % 4294967296) ((x : Int) / 524288) = ((rotr 19 x : Nat) : Int) := by
  rw [show (x : Int) * 8192 % 4294967296 = ((x * 2 ^ (32 - 19) % 4294967296 : Nat) : Int) by simp, show (x : Int) / 524288 = ((x / 2 ^ 19 : Nat) : Int) by simp, u32_or_nat _ _ (mod32 _) (div32 _ hx), Nat.or_comm]
  rfl
theorem turn'_19 (x : Nat) (hx : x < 4294967296) : bits .or .u32 ((x : Int) / 524288) ((x : Int) * 8192 % 4294967296) = ((rotr 19 x : Nat) : Int) := by
  rw [show (x : Int) * 8192 % 4294967296 = ((x * 2 ^ (32 - 19) % 4294967296 : Nat) : Int) by simp, show (x : Int) / 524288 = ((x / 2 ^ 19 : Nat) : Int) by simp, u32_or_nat _ _ (div32 _ hx) (mod32 _)]
  rfl
set_option maxRecDepth 100000 in
theorem left_19 (x : Nat) (hx : x < 4294967296) (w : World) : Calls Tryz.prog 210 #[.int .u32 (x : Int), .int .i64 (-19)] w fun e w' => e = .returned (.int .u32 ((rotr 19 x : Nat) : Int)) ∧ w = w' := by
  have hv := turn_19 x hx
  have hc : IntKind.u64.wrap (-19) = 18446744073709551597 := by decide
  have ha : bits .and .u64 18446744073709551597 31 = 13 := by decide
  go_enter Tryz.func210, Tryz.ntmps210
  go_wp2_with fail
  go_ret
  exact ⟨by first | rfl | rw [hv], rfl⟩
theorem rotate_19 (x : Nat) (hx : x < 4294967296) (w : World) : Calls Tryz.prog 172 #[.int .u32 (x : Int), .int .i64 19] w fun e w' => e = .returned (.int .u32 ((rotr 19 x : Nat) : Int)) ∧ w = w' := by
  have m1 := Lib.hid (fun W => left_19 x hx W)
  go_enter Tryz.func172, Tryz.ntmps172
  go_wp2_with fail
  refine (m1.out _).mono ?_
  rintro e w' ⟨rfl, rfl⟩
  go_wp2_with fail
  go_ret
  exact ⟨rfl, rfl⟩
theorem rot_19 (x : Nat) (hx : x < 4294967296) (w : World) : Calls Tryz.prog 159 #[.int .u32 (x : Int), .int .i64 19] w fun e w' => e = .returned (.int .u32 ((rotr 19 x : Nat) : Int)) ∧ ∃ n, w' = w.drewN n := by
  have hv := turn'_19 x hx
  have hw : IntKind.i64.wrap (32 - 19) = 13 := by decide
  go_enter Tryz.func159, Tryz.ntmps159
  go_wp2_with fail
  go_quiet (fail)
  go_wp2_with fail
  go_ret
  exact ⟨by first | rfl | rw [hv], _, rfl⟩

theorem turn_22 (x : Nat) (hx : x < 4294967296) : bits .or .u32 ((x : Int) * 1024 % 4294967296) ((x : Int) / 4194304) = ((rotr 22 x : Nat) : Int) := by
  rw [show (x : Int) * 1024 % 4294967296 = ((x * 2 ^ (32 - 22) % 4294967296 : Nat) : Int) by simp, show (x : Int) / 4194304 = ((x / 2 ^ 22 : Nat) : Int) by simp, u32_or_nat _ _ (mod32 _) (div32 _ hx), Nat.or_comm]
  rfl
theorem turn'_22 (x : Nat) (hx : x < 4294967296) : bits .or .u32 ((x : Int) / 4194304) ((x : Int) * 1024 % 4294967296) = ((rotr 22 x : Nat) : Int) := by
  rw [show (x : Int) * 1024 % 4294967296 = ((x * 2 ^ (32 - 22) % 4294967296 : Nat) : Int) by simp, show (x : Int) / 4194304 = ((x / 2 ^ 22 : Nat) : Int) by simp, u32_or_nat _ _ (div32 _ hx) (mod32 _)]
  rfl
set_option maxRecDepth 100000 in
theorem left_22 (x : Nat) (hx : x < 4294967296) (w : World) : Calls Tryz.prog 210 #[.int .u32 (x : Int), .int .i64 (-22)] w fun e w' => e = .returned (.int .u32 ((rotr 22 x : Nat) : Int)) ∧ w = w' := by
  have hv := turn_22 x hx
  have hc : IntKind.u64.wrap (-22) = 18446744073709551594 := by decide
  have ha : bits .and .u64 18446744073709551594 31 = 10 := by decide
  go_enter Tryz.func210, Tryz.ntmps210
  go_wp2_with fail
  go_ret
  exact ⟨by first | rfl | rw [hv], rfl⟩
theorem rotate_22 (x : Nat) (hx : x < 4294967296) (w : World) : Calls Tryz.prog 172 #[.int .u32 (x : Int), .int .i64 22] w fun e w' => e = .returned (.int .u32 ((rotr 22 x : Nat) : Int)) ∧ w = w' := by
  have m1 := Lib.hid (fun W => left_22 x hx W)
  go_enter Tryz.func172, Tryz.ntmps172
  go_wp2_with fail
  refine (m1.out _).mono ?_
  rintro e w' ⟨rfl, rfl⟩
  go_wp2_with fail
  go_ret
  exact ⟨rfl, rfl⟩
theorem rot_22 (x : Nat) (hx : x < 4294967296) (w : World) : Calls Tryz.prog 159 #[.int .u32 (x : Int), .int .i64 22] w fun e w' => e = .returned (.int .u32 ((rotr 22 x : Nat) : Int)) ∧ ∃ n, w' = w.drewN n := by
  have hv := turn'_22 x hx
  have hw : IntKind.i64.wrap (32 - 22) = 10 := by decide
  go_enter Tryz.func159, Tryz.ntmps159
  go_wp2_with fail
  go_quiet (fail)
  go_wp2_with fail
  go_ret
  exact ⟨by first | rfl | rw [hv], _, rfl⟩

theorem turn_25 (x : Nat) (hx : x < 4294967296) : bits .or .u32 ((x : Int) * 128 % 4294967296) ((x : Int) / 33554432) = ((rotr 25 x : Nat) : Int) := by
  rw [show (x : Int) * 128 % 4294967296 = ((x * 2 ^ (32 - 25) % 4294967296 : Nat) : Int) by simp, show (x : Int) / 33554432 = ((x / 2 ^ 25 : Nat) : Int) by simp, u32_or_nat _ _ (mod32 _) (div32 _ hx), Nat.or_comm]
  rfl
theorem turn'_25 (x : Nat) (hx : x < 4294967296) : bits .or .u32 ((x : Int) / 33554432) ((x : Int) * 128 % 4294967296) = ((rotr 25 x : Nat) : Int) := by
  rw [show (x : Int) * 128 % 4294967296 = ((x * 2 ^ (32 - 25) % 4294967296 : Nat) : Int) by simp, show (x : Int) / 33554432 = ((x / 2 ^ 25 : Nat) : Int) by simp, u32_or_nat _ _ (div32 _ hx) (mod32 _)]
  rfl
set_option maxRecDepth 100000 in
theorem left_25 (x : Nat) (hx : x < 4294967296) (w : World) : Calls Tryz.prog 210 #[.int .u32 (x : Int), .int .i64 (-25)] w fun e w' => e = .returned (.int .u32 ((rotr 25 x : Nat) : Int)) ∧ w = w' := by
  have hv := turn_25 x hx
  have hc : IntKind.u64.wrap (-25) = 18446744073709551591 := by decide
  have ha : bits .and .u64 18446744073709551591 31 = 7 := by decide
  go_enter Tryz.func210, Tryz.ntmps210
  go_wp2_with fail
  go_ret
  exact ⟨by first | rfl | rw [hv], rfl⟩
theorem rotate_25 (x : Nat) (hx : x < 4294967296) (w : World) : Calls Tryz.prog 172 #[.int .u32 (x : Int), .int .i64 25] w fun e w' => e = .returned (.int .u32 ((rotr 25 x : Nat) : Int)) ∧ w = w' := by
  have m1 := Lib.hid (fun W => left_25 x hx W)
  go_enter Tryz.func172, Tryz.ntmps172
  go_wp2_with fail
  refine (m1.out _).mono ?_
  rintro e w' ⟨rfl, rfl⟩
  go_wp2_with fail
  go_ret
  exact ⟨rfl, rfl⟩
theorem rot_25 (x : Nat) (hx : x < 4294967296) (w : World) : Calls Tryz.prog 159 #[.int .u32 (x : Int), .int .i64 25] w fun e w' => e = .returned (.int .u32 ((rotr 25 x : Nat) : Int)) ∧ ∃ n, w' = w.drewN n := by
  have hv := turn'_25 x hx
  have hw : IntKind.i64.wrap (32 - 25) = 7 := by decide
  go_enter Tryz.func159, Tryz.ntmps159
  go_wp2_with fail
  go_quiet (fail)
  go_wp2_with fail
  go_ret
  exact ⟨by first | rfl | rw [hv], _, rfl⟩

end Go.Proofs.YtebgmlbbilcbbaaGreatDoor
