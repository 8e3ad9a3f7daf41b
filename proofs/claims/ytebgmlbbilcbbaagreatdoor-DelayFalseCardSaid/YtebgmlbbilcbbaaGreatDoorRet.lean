/- The functions of nat as calls that return a value. -/
import Derived.Test.YtebgmlbbilcbbaaGreatDoorRefThree
import Derived.Test.YtebgmlbbilcbbaaGreatDoorNatL
namespace Go.Proofs.YtebgmlbbilcbbaaGreatDoor
open Go.RowKit

/-- A call that returns a value, whatever the world, and leaves what was there. -/
abbrev Ret (f : FuncId) (args : Array Value) (v : Value) : Prop := ∀ W : World, Calls Tryz.prog f args W fun e w' => e = .returned v ∧ Below W.heap.size W w'

theorem Ret.of {f : FuncId} {args : Array Value} {v u : Value} (h : Ret f args v) (e : v = u) : Ret f args u := e ▸ h
theorem Ret.quiet {f : FuncId} {args : Array Value} {v : Value} (h : ∀ W : World, Calls Tryz.prog f args W fun e w' => e = .returned v ∧ W = w') : Ret f args v :=
  fun W => (h W).mono fun _ _ ⟨h1, h2⟩ => ⟨h1, h2 ▸ Below.refl _ _⟩

section
variable {a b : ByteArray} (ha : a.size ≤ 1000) (hb : b.size ≤ 1000)
include ha hb
theorem ret_mul {n : Nat} (h : sval a * sval b = n) : Ret 93 #[.string a, .string b] (.string (natS n)) := fun W => h ▸ Mul_any a b W (by omega) (by omega)
theorem ret_quo {m n : Nat} (h1 : sval a = m) (h2 : sval b = n) (h : n ≠ 0) : Ret 134 #[.string a, .string b] (.tuple #[.string (natS (m / n)), .string (natS (m % n)), .bool true]) := fun W => by
  have := Quo_any a b W (by omega) (by omega)
  unfold quoRes at this
  rw [h1, h2, if_neg h] at this
  exact this
theorem ret_quo0 (h : sval b = 0) : Ret 134 #[.string a, .string b] (.tuple #[.string ⟨#[]⟩, .string ⟨#[]⟩, .bool false]) := fun W => by
  have := Quo_any a b W (by omega) (by omega)
  unfold quoRes at this
  rw [if_pos h] at this
  exact this
theorem ret_cmp {r : Int} (h : cmpI (sval a) (sval b) = r) : Ret 76 #[.string a, .string b] (.int .i64 r) := fun W => h ▸ Cmp_any a b W (by omega) (by omega)
end
theorem ret_bits {a : ByteArray} (ha : a.size ≤ 1000) {n : Nat} (h : bitsN (sval a) = n) : Ret 201 #[.string a] (.int .i64 (n : Int)) := Ret.quiet fun W => h ▸ Bits_any a W (by omega)
theorem ret_right {a : ByteArray} (ha : a.size ≤ 1000) {b : Bool} (h : rightB a = b) : Ret 138 #[.string a] (.bool b) := Ret.quiet fun W => h ▸ Right_any a W (by omega)
theorem ret_canon {a : ByteArray} (ha : a.size ≤ 1000) {n : Nat} (h : sval a = n) : Ret 94 #[.string a] (.string (natS n)) := Ret.quiet fun W => h ▸ rCanon a W (by omega)

theorem right_natS (n : Nat) : rightB (natS n) = true := by
  have h := natS_canon n
  unfold rightB
  cases e : (natS n).data.toList with
  | nil => rfl
  | cons x l =>
    have := h (by rw [e]; simp)
    simp only [e, List.head_cons] at this
    simpa using this
theorem sval_le {a : ByteArray} {k : Nat} (h : a.size ≤ k) : sval a < P8 k := Nat.lt_of_lt_of_le (sval_lt a) (P8_mono h)
theorem natS_sz {n k : Nat} (h : n < P8 k) (hk : k ≤ 1000) : (natS n).size ≤ 1000 := Nat.le_trans (natS_size h) hk
theorem P8_sum {x y k : Nat} (hx : x < P8 k) (hy : y < P8 k) : x + y < P8 (k + 1) := by rw [P8_succ]; omega
theorem P8_prod {x y j k : Nat} (hx : x < P8 j) (hy : y < P8 k) : x * y < P8 (j + k) := by rw [P8_add]; exact Nat.mul_lt_mul'' hx hy


end Go.Proofs.YtebgmlbbilcbbaaGreatDoor
