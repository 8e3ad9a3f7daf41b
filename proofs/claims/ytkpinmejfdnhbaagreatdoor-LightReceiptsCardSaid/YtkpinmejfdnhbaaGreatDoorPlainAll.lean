/- Joined by a program: Plain, PlainDiv, PlainStr, PlainPow, PlainMont, PlainR, PlainDec, PlainPar. -/
import Derived.Lib.ItoaNum
import Derived.Lib.Atoi
namespace Go.Proofs.YtkpinmejfdnhbaaGreatDoor

def val : List Nat → Nat
 | [] => 0
 | x :: t => x + 4294967296 * val t

def P32 (n : Nat) : Nat := 4294967296 ^ n

theorem P32_succ (n : Nat) : P32 (n + 1) = 4294967296 * P32 n := by unfold P32; rw [Nat.pow_succ, Nat.mul_comm]
theorem val_append (xs ys : List Nat) : val (xs ++ ys) = val xs + P32 xs.length * val ys := by
 induction xs with
 | nil => simp [val, P32]
 | cons x t ih =>
   rw [List.cons_append, val, ih, val, List.length_cons, P32_succ, Nat.mul_add, Nat.mul_assoc]; omega

theorem val_snoc (xs : List Nat) (d : Nat) : val (xs ++ [d]) = val xs + P32 xs.length * d := by rw [val_append]; simp [val]

def Lt32 (xs : List Nat) : Prop := ∀ j d : Nat, xs[j]? = some d → d < 4294967296

theorem Lt32.tail {x : Nat} {xs : List Nat} (h : Lt32 (x :: xs)) : Lt32 xs := fun j d hd => h (j + 1) d (by simpa using hd)
theorem Lt32.head {x : Nat} {xs : List Nat} (h : Lt32 (x :: xs)) : x < 4294967296 := h 0 x (by simp)
theorem Lt32.one {d : Nat} (h : d < 4294967296) : Lt32 [d] := fun j e he => by
 match j with
 | 0 => simp at he; omega
 | j + 1 => simp at he
theorem Lt32.take {xs : List Nat} (h : Lt32 xs) (m : Nat) : Lt32 (xs.take m) := fun j d hd => by
 rw [List.getElem?_take] at hd
 split at hd
 ·exact h _ _ hd
 ·cases hd
theorem val_lt {xs : List Nat} (h : Lt32 xs) : val xs < P32 xs.length := by
 induction xs with
 | nil => simp [val, P32]
 | cons x t ih =>
   have h1 := ih h.tail
   have h2 := h.head
   rw [val, List.length_cons, P32_succ]
   omega

theorem val_zeros (n : Nat) : val (List.replicate n 0) = 0 := by
 induction n with
 | zero => rfl
 | succ n ih => rw [List.replicate_succ, val, ih]

theorem take_snoc {xs : List Nat} {k d : Nat} (h : xs[k]? = some d) : xs.take (k + 1) = xs.take k ++ [d] := by
 obtain ⟨hl, rfl⟩ := List.getElem?_eq_some_iff.1 h
 rw [List.take_succ_eq_append_getElem hl]

theorem val_take_succ {xs : List Nat} {k d : Nat} (h : xs[k]? = some d) : val (xs.take (k + 1)) = val (xs.take k) + P32 k * d := by
 obtain ⟨hl, _⟩ := List.getElem?_eq_some_iff.1 h
 rw [take_snoc h, val_snoc, List.length_take, Nat.min_eq_left (by omega)]

theorem val_take_all {xs : List Nat} {k : Nat} (h : xs.length ≤ k) : val (xs.take k) = val xs := by rw [List.take_of_length_le h]

theorem val_trim {xs : List Nat} {m : Nat} (h : ∀ j d : Nat, m ≤ j → xs[j]? = some d → d = 0) : val (xs.take m) = val xs := by
 have e : xs.drop m = List.replicate (xs.drop m).length 0 := by
  apply List.eq_replicate_iff.2
  refine ⟨rfl, fun b hb => ?_⟩
  obtain ⟨i, hi, rfl⟩ := List.getElem_of_mem hb
  have := List.getElem?_eq_getElem hi
  rw [List.getElem?_drop] at this
  exact h _ _ (by omega) this
 have h2 := val_append (xs.take m) (xs.drop m)
 rw [List.take_append_drop, e, val_zeros] at h2
 omega

def Trim (xs : List Nat) : Prop := 0 < xs.length → ∃ d, xs[xs.length - 1]? = some d ∧ d ≠ 0

theorem Trim.ge {xs : List Nat} (h : Trim xs) (h0 : 0 < xs.length) : P32 (xs.length - 1) ≤ val xs := by
 obtain ⟨d, hd, hne⟩ := h h0
 have e := val_take_succ hd
 rw [val_take_all (by omega)] at e
 have : P32 (xs.length - 1) * 1 ≤ P32 (xs.length - 1) * d := Nat.mul_le_mul_left _ (by omega)
 omega

theorem Trim.len_le {xs : List Nat} (h : Trim xs) {n : Nat} (hv : val xs < P32 n) : xs.length ≤ n := by
 rcases Nat.eq_zero_or_pos xs.length with h0 | h0
 ·omega
 ·have h1 := h.ge h0
  rcases Nat.lt_or_ge n xs.length with hlt | hge
  ·exfalso
   have : P32 n ≤ P32 (xs.length - 1) := Nat.pow_le_pow_right (by omega) (by omega)
   omega
  ·exact hge

theorem carry_step {f : List Nat} {i : Nat} (hf : f.length = i) (s : Nat) : val (f ++ [s % 4294967296]) + P32 (i + 1) * (s / 4294967296) = val f + P32 i * s := by
 rw [val_snoc, hf, P32_succ, Nat.mul_comm 4294967296 (P32 i), Nat.mul_assoc, Nat.add_assoc, ← Nat.mul_add, Nat.mod_add_div]

def cmpI (a b : Nat) : Int := if a < b then -1 else if a = b then 0 else 1
theorem cmpI_lt {a b : Nat} (h : a < b) : cmpI a b = -1 := if_pos h
theorem cmpI_eq {a b : Nat} (h : a = b) : cmpI a b = 0 := by unfold cmpI; rw [if_neg (by omega), if_pos h]
theorem cmpI_gt {a b : Nat} (h : b < a) : cmpI a b = 1 := by unfold cmpI; rw [if_neg (by omega), if_neg (by omega)]

theorem drop_cons {xs : List Nat} {k x : Nat} (h : xs[k]? = some x) : xs.drop k = x :: xs.drop (k + 1) := by
 obtain ⟨hl, rfl⟩ := List.getElem?_eq_some_iff.1 h
 exact List.drop_eq_getElem_cons hl

theorem val_split {xs : List Nat} {k x : Nat} (h : xs[k]? = some x) : val xs = val (xs.take k) + P32 k * x + P32 (k + 1) * val (xs.drop (k + 1)) := by
 obtain ⟨hl, _⟩ := List.getElem?_eq_some_iff.1 h
 have e := val_append (xs.take k) (xs.drop k)
 rw [List.take_append_drop, drop_cons h, val, List.length_take, Nat.min_eq_left (by omega), Nat.mul_add] at e
 rw [e, P32_succ, Nat.mul_comm 4294967296 (P32 k), Nat.mul_assoc]
 omega

theorem val_lt_at {xs ys : List Nat} {k x y : Nat} (hx : xs[k]? = some x) (hy : ys[k]? = some y) (hd : xs.drop (k + 1) = ys.drop (k + 1)) (l1 : Lt32 xs) (hxy : x < y) : val xs < val ys := by
 have e1 := val_split hx
 have e2 := val_split hy
 rw [hd] at e1
 have h1 := val_lt (l1.take k)
 obtain ⟨hl, _⟩ := List.getElem?_eq_some_iff.1 hx
 rw [List.length_take, Nat.min_eq_left (by omega)] at h1
 have h2 : P32 k * (x + 1) ≤ P32 k * y := Nat.mul_le_mul_left _ hxy
 rw [Nat.mul_add, Nat.mul_one] at h2
 omega

theorem Trim.lt_of_len {xs ys : List Nat} (hy : Trim ys) (l1 : Lt32 xs) (h : xs.length < ys.length) : val xs < val ys := by
 have h1 := val_lt l1
 have h2 := hy.ge (by omega)
 have : P32 xs.length ≤ P32 (ys.length - 1) := Nat.pow_le_pow_right (by omega) (by omega)
 omega

theorem borrow_step {f : List Nat} {i a b x y cy cy' v : Nat} (hf : f.length = i) (h : val f + b = a + P32 i * cy) (hv : v + cy + y = x + 4294967296 * cy') :
 val (f ++ [v]) + (b + P32 i * y) = a + P32 i * x + P32 (i + 1) * cy' := by
 have e : P32 i * (v + cy + y) = P32 i * (x + 4294967296 * cy') := by rw [hv]
 rw [Nat.mul_add, Nat.mul_add, Nat.mul_add, ← Nat.mul_assoc, Nat.mul_comm (P32 i) 4294967296, ← P32_succ] at e
 rw [val_snoc, hf]
 omega

theorem shr_digit {x y k : Nat} (hk : k ≤ 31) (hx : x < 4294967296) :
 ((x + y * 4294967296) / 2 ^ k % 4294967296) * 2 ^ k + x % 2 ^ k = x + 4294967296 * (y % 2 ^ k) := by
 have e : (4294967296 : Nat) = 2 ^ (32 - k) * 2 ^ k := by rw [← Nat.pow_add, show 32 - k + k = 32 by omega]
 have hp : 0 < 2 ^ k := Nat.pow_pos (by omega)
 have e1 : (x + y * 4294967296) / 2 ^ k = x / 2 ^ k + y * 2 ^ (32 - k) := by
  rw [e, ← Nat.mul_assoc, Nat.add_mul_div_right _ _ hp]
 have e2 := Nat.div_add_mod y (2 ^ k)
 have e3 := Nat.div_add_mod x (2 ^ k)
 have hlt : x / 2 ^ k < 2 ^ (32 - k) := by
  apply Nat.div_lt_of_lt_mul
  rw [Nat.mul_comm, ← e]; exact hx
 have hr : y % 2 ^ k < 2 ^ k := Nat.mod_lt _ hp
 have e4 : x / 2 ^ k + y * 2 ^ (32 - k) = (x / 2 ^ k + (y % 2 ^ k) * 2 ^ (32 - k)) + 4294967296 * (y / 2 ^ k) := by
  have : y * 2 ^ (32 - k) = (y % 2 ^ k) * 2 ^ (32 - k) + 4294967296 * (y / 2 ^ k) := by
   conv => lhs; rw [← e2]
   rw [Nat.add_mul, e, Nat.mul_assoc (2 ^ (32 - k)), Nat.mul_comm (2 ^ (32 - k)), Nat.add_comm]
  omega
 have hle : (y % 2 ^ k) * 2 ^ (32 - k) + 2 ^ (32 - k) ≤ 4294967296 := by
  have : (y % 2 ^ k + 1) * 2 ^ (32 - k) ≤ 2 ^ k * 2 ^ (32 - k) := Nat.mul_le_mul_right _ hr
  rw [Nat.add_mul, Nat.one_mul, Nat.mul_comm (2 ^ k), ← e] at this
  exact this
 rw [e1, e4, Nat.add_mul_mod_self_left, Nat.mod_eq_of_lt (by omega), Nat.add_mul, Nat.mul_assoc, ← e]
 rw [Nat.mul_comm] at e3
 rw [Nat.mul_comm 4294967296]
 omega

end Go.Proofs.YtkpinmejfdnhbaaGreatDoor
namespace Go.Proofs.YtkpinmejfdnhbaaGreatDoor

section
variable {p u0 u1 u2 v0 v1 lo lov U V : Nat}

end

end Go.Proofs.YtkpinmejfdnhbaaGreatDoor
namespace Go.Proofs.YtkpinmejfdnhbaaGreatDoor

def lv : List UInt8 → Nat
 | [] => 0
 | b :: t => b.toNat + 256 * lv t

def bv (l : List UInt8) : Nat := lv l.reverse

def P8 (n : Nat) : Nat := 256 ^ n
theorem P8_zero : P8 0 = 1 := rfl
theorem P8_succ (n : Nat) : P8 (n + 1) = 256 * P8 n := by unfold P8; rw [Nat.pow_succ, Nat.mul_comm]
theorem P8_pos (n : Nat) : 0 < P8 n := Nat.pow_pos (by omega)
theorem P32_P8 (n : Nat) : P32 n = P8 (4 * n) := by unfold P32 P8; rw [show (4294967296 : Nat) = 256 ^ 4 by rfl, ← Nat.pow_mul]

theorem lv_append (a b : List UInt8) : lv (a ++ b) = lv a + P8 a.length * lv b := by
 induction a with
 | nil => simp [lv, P8]
 | cons x t ih => rw [List.cons_append, lv, ih, lv, List.length_cons, P8_succ, Nat.mul_add, Nat.mul_assoc]; omega

theorem lv_lt (l : List UInt8) : lv l < P8 l.length := by
 induction l with
 | nil => simp [lv, P8]
 | cons x t ih =>
   have := x.toNat_lt
   rw [lv, List.length_cons, P8_succ]
   omega

theorem bv_nil : bv [] = 0 := rfl
theorem bv_append (a b : List UInt8) : bv (a ++ b) = bv a * P8 b.length + bv b := by
 unfold bv
 rw [List.reverse_append, lv_append, List.length_reverse, Nat.mul_comm]
 omega
theorem bv_snoc (a : List UInt8) (x : UInt8) : bv (a ++ [x]) = bv a * 256 + x.toNat := by
 rw [bv_append]
 simp [bv, lv, P8]
theorem bv_cons (a : List UInt8) (x : UInt8) : bv (x :: a) = x.toNat * P8 a.length + bv a := by
 have := bv_append [x] a
 simpa [bv, lv] using this
theorem bv_lt (l : List UInt8) : bv l < P8 l.length := by
 have := lv_lt l.reverse
 rwa [List.length_reverse] at this

def nbl : Nat → Nat → List UInt8
 | 0, _ => []
 | f + 1, n => if n = 0 then [] else UInt8.ofNat (n % 256) :: nbl f (n / 256)

def nb (n : Nat) : List UInt8 := (nbl n n).reverse

theorem lv_nbl : ∀ (f n : Nat), n ≤ f → lv (nbl f n) = n
 | 0, n, h => by obtain rfl : n = 0 := by omega
                 rfl
 | f + 1, n, h => by
   rw [nbl]
   by_cases h0 : n = 0
   ·rw [if_pos h0]; exact h0.symm
   ·rw [if_neg h0, lv, lv_nbl f (n / 256) (by omega)]
    simp
    omega

theorem bv_nb (n : Nat) : bv (nb n) = n := by
 unfold bv nb
 rw [List.reverse_reverse]
 exact lv_nbl n n (Nat.le_refl _)

theorem lv_pos {r : List UInt8} (h : r ≠ []) (hl : r.getLast h ≠ 0) : 0 < lv r := by
 induction r with
 | nil => exact absurd rfl h
 | cons x t ih =>
   rw [lv]
   by_cases ht : t = []
   ·subst ht
    simp only [List.getLast_singleton] at hl
    have : x.toNat ≠ 0 := fun e => hl (by rw [← UInt8.toNat_inj]; simpa using e)
    simp [lv]
    omega
   ·have := ih ht (by rw [List.getLast_cons ht] at hl; exact hl)
    omega

theorem nbl_lv : ∀ (r : List UInt8) (f : Nat), lv r ≤ f → (∀ h : r ≠ [], r.getLast h ≠ 0) → nbl f (lv r) = r
 | [], f, _, _ => by cases f <;> simp [nbl, lv]
 | x :: t, f, hf, hl => by
   have hp := lv_pos (r := x :: t) (by simp) (hl (by simp))
   obtain ⟨g, rfl⟩ : ∃ g, f = g + 1 := ⟨f - 1, by omega⟩
   rw [lv] at hf hp ⊢
   have hx := x.toNat_lt
   rw [nbl, if_neg (by omega), show (x.toNat + 256 * lv t) % 256 = x.toNat by omega, show (x.toNat + 256 * lv t) / 256 = lv t by omega, UInt8.ofNat_toNat]
   rw [nbl_lv t g (by omega) (fun h => by have := hl (by simp); rw [List.getLast_cons h] at this; exact this)]

def Canon (l : List UInt8) : Prop := ∀ h : l ≠ [], l.head h ≠ 0

theorem nb_bv {l : List UInt8} (h : Canon l) : nb (bv l) = l := by
 unfold nb bv
 rw [nbl_lv l.reverse _ (Nat.le_refl _) (fun hne => by rw [List.getLast_reverse]; exact h _), List.reverse_reverse]

theorem nb_of {l : List UInt8} {n : Nat} (h : Canon l) (hv : bv l = n) : nb n = l := by rw [← hv, nb_bv h]

def strip0 (l : List UInt8) : List UInt8 := l.dropWhile (· == 0)

theorem strip0_canon (l : List UInt8) : Canon (strip0 l) := by
 induction l with
 | nil => intro h; exact absurd rfl h
 | cons x t ih =>
   unfold strip0
   rw [List.dropWhile_cons]
   split
   ·exact ih
   ·rename_i h
    intro _
    simpa using h

theorem bv_strip0 (l : List UInt8) : bv (strip0 l) = bv l := by
 induction l with
 | nil => rfl
 | cons x t ih =>
   unfold strip0
   rw [List.dropWhile_cons]
   split
   ·rename_i h
    have : x = 0 := by simpa using h
    subst this
    rw [bv_cons]
    simpa [strip0] using ih
   ·rfl

theorem nb_strip (l : List UInt8) : nb (bv l) = strip0 l := nb_of (strip0_canon l) (bv_strip0 l)

theorem nb_canon (n : Nat) : Canon (nb n) := by
 have h := strip0_canon (nb n)
 rwa [← nb_strip, bv_nb] at h

theorem canon_pos {l : List UInt8} (h : Canon l) (hne : l ≠ []) : P8 (l.length - 1) ≤ bv l := by
 cases l with
 | nil => exact absurd rfl hne
 | cons x t =>
   have hx : x.toNat ≠ 0 := fun e => h hne (by rw [List.head_cons, ← UInt8.toNat_inj]; simpa using e)
   rw [bv_cons]
   have : 1 * P8 t.length ≤ x.toNat * P8 t.length := Nat.mul_le_mul_right _ (by omega)
   simp
   omega

theorem nb_len {n k : Nat} (h : n < P8 k) : (nb n).length ≤ k := by
 by_cases h0 : nb n = []
 ·rw [h0]; exact Nat.zero_le _
 ·have h1 := canon_pos (nb_canon n) h0
  rw [bv_nb] at h1
  rcases Nat.lt_or_ge k (nb n).length with h2 | h2
  ·exfalso
   have : P8 k ≤ P8 ((nb n).length - 1) := Nat.pow_le_pow_right (by omega) (by omega)
   omega
  ·exact h2

def natS (n : Nat) : ByteArray := ⟨(nb n).toArray⟩
def sval (s : ByteArray) : Nat := bv s.data.toList

theorem sval_natS (n : Nat) : sval (natS n) = n := by unfold sval natS; simpa using bv_nb n
theorem sval_lt (s : ByteArray) : sval s < P8 s.size := by
 have := bv_lt s.data.toList
 rwa [Array.length_toList] at this
theorem natS_size {n k : Nat} (h : n < P8 k) : (natS n).size ≤ k := by
 have := nb_len h
 simpa [natS, ByteArray.size] using this
theorem natS_sval (s : ByteArray) : natS (sval s) = ⟨(strip0 s.data.toList).toArray⟩ := by unfold natS sval; rw [nb_strip]

def bitsN (n : Nat) : Nat := if n = 0 then 0 else Nat.log2 n + 1

theorem bitsN_zero : bitsN 0 = 0 := rfl
theorem bitsN_eq {n k : Nat} (h1 : 2 ^ k ≤ n) (h2 : n < 2 ^ (k + 1)) : bitsN n = k + 1 := by
 have hp : 0 < 2 ^ k := Nat.pow_pos (by omega)
 have h0 : n ≠ 0 := by omega
 unfold bitsN
 rw [if_neg h0, (Nat.log2_eq_iff h0).2 ⟨h1, h2⟩]

theorem bitsN_bounds {n : Nat} (h0 : n ≠ 0) : ∃ k, bitsN n = k + 1 ∧ 2 ^ k ≤ n ∧ n < 2 ^ (k + 1) := by
 have h := (Nat.log2_eq_iff (n := n) (k := n.log2) h0).1 rfl
 exact ⟨n.log2, bitsN_eq h.1 h.2, h.1, h.2⟩

/-! ### bytes and digits -/

end Go.Proofs.YtkpinmejfdnhbaaGreatDoor
namespace Go.Proofs.YtkpinmejfdnhbaaGreatDoor

theorem lt_bitsN (v : Nat) : v < 2 ^ bitsN v := by
 by_cases h : v = 0
 ·subst h; rw [bitsN_zero]; decide
 ·obtain ⟨k, hk, _, h2⟩ := bitsN_bounds h
  rw [hk]; exact h2
theorem bitsN_le {v k : Nat} (h : v < 2 ^ k) : bitsN v ≤ k := by
 by_cases h0 : v = 0
 ·subst h0; rw [bitsN_zero]; exact Nat.zero_le _
 ·obtain ⟨j, hj, h1, _⟩ := bitsN_bounds h0
  rw [hj]
  rcases Nat.lt_or_ge j k with h2 | h2
  ·exact h2
  ·have : 2 ^ k ≤ 2 ^ j := Nat.pow_le_pow_right (by omega) h2
   omega

/-! ### powers -/
end Go.Proofs.YtkpinmejfdnhbaaGreatDoor
namespace Go.Proofs.YtkpinmejfdnhbaaGreatDoor

/-! ### the inverse of an odd number -/

/-! ### the steps of Montgomery's product -/

/-! ### cancelling a factor that has no common divisor with the modulus -/
end Go.Proofs.YtkpinmejfdnhbaaGreatDoor
namespace Go.Proofs.YtkpinmejfdnhbaaGreatDoor.R

def val : List Nat → Nat
 | [] => 0
 | x :: t => x + 16777216 * val t

def P24 (n : Nat) : Nat := 16777216 ^ n

theorem P24_succ (n : Nat) : P24 (n + 1) = 16777216 * P24 n := by unfold P24; rw [Nat.pow_succ, Nat.mul_comm]
theorem val_append (xs ys : List Nat) : val (xs ++ ys) = val xs + P24 xs.length * val ys := by
 induction xs with
 | nil => simp [val, P24]
 | cons x t ih =>
   rw [List.cons_append, val, ih, val, List.length_cons, P24_succ, Nat.mul_add, Nat.mul_assoc]; omega

theorem val_snoc (xs : List Nat) (d : Nat) : val (xs ++ [d]) = val xs + P24 xs.length * d := by rw [val_append]; simp [val]

def Lt24 (xs : List Nat) : Prop := ∀ j d : Nat, xs[j]? = some d → d < 16777216

theorem Lt24.nil : Lt24 [] := fun j d h => by simp at h
theorem Lt24.tail {x : Nat} {xs : List Nat} (h : Lt24 (x :: xs)) : Lt24 xs := fun j d hd => h (j + 1) d (by simpa using hd)
theorem Lt24.head {x : Nat} {xs : List Nat} (h : Lt24 (x :: xs)) : x < 16777216 := h 0 x (by simp)
theorem Lt24.append {xs ys : List Nat} (h : Lt24 xs) (k : Lt24 ys) : Lt24 (xs ++ ys) := fun j d hd => by
 rw [List.getElem?_append] at hd
 split at hd
 ·exact h _ _ hd
 ·exact k _ _ hd
theorem Lt24.one {d : Nat} (h : d < 16777216) : Lt24 [d] := fun j e he => by
 match j with
 | 0 => simp at he; omega
 | j + 1 => simp at he
theorem Lt24.snoc {xs : List Nat} {d : Nat} (h : Lt24 xs) (hd : d < 16777216) : Lt24 (xs ++ [d]) := h.append (Lt24.one hd)
theorem Lt24.take {xs : List Nat} (h : Lt24 xs) (m : Nat) : Lt24 (xs.take m) := fun j d hd => by
 rw [List.getElem?_take] at hd
 split at hd
 ·exact h _ _ hd
 ·cases hd
theorem val_lt {xs : List Nat} (h : Lt24 xs) : val xs < P24 xs.length := by
 induction xs with
 | nil => simp [val, P24]
 | cons x t ih =>
   have h1 := ih h.tail
   have h2 := h.head
   rw [val, List.length_cons, P24_succ]
   omega

theorem val_zeros (n : Nat) : val (List.replicate n 0) = 0 := by
 induction n with
 | zero => rfl
 | succ n ih => rw [List.replicate_succ, val, ih]

theorem take_snoc {xs : List Nat} {k d : Nat} (h : xs[k]? = some d) : xs.take (k + 1) = xs.take k ++ [d] := by
 obtain ⟨hl, rfl⟩ := List.getElem?_eq_some_iff.1 h
 rw [List.take_succ_eq_append_getElem hl]

theorem val_take_succ {xs : List Nat} {k d : Nat} (h : xs[k]? = some d) : val (xs.take (k + 1)) = val (xs.take k) + P24 k * d := by
 obtain ⟨hl, _⟩ := List.getElem?_eq_some_iff.1 h
 rw [take_snoc h, val_snoc, List.length_take, Nat.min_eq_left (by omega)]

theorem val_take_all {xs : List Nat} {k : Nat} (h : xs.length ≤ k) : val (xs.take k) = val xs := by rw [List.take_of_length_le h]

theorem val_trim {xs : List Nat} {m : Nat} (h : ∀ j d : Nat, m ≤ j → xs[j]? = some d → d = 0) : val (xs.take m) = val xs := by
 have e : xs.drop m = List.replicate (xs.drop m).length 0 := by
  apply List.eq_replicate_iff.2
  refine ⟨rfl, fun b hb => ?_⟩
  obtain ⟨i, hi, rfl⟩ := List.getElem_of_mem hb
  have := List.getElem?_eq_getElem hi
  rw [List.getElem?_drop] at this
  exact h _ _ (by omega) this
 have h2 := val_append (xs.take m) (xs.drop m)
 rw [List.take_append_drop, e, val_zeros] at h2
 omega

def Trim (xs : List Nat) : Prop := 0 < xs.length → ∃ d, xs[xs.length - 1]? = some d ∧ d ≠ 0

theorem Trim.ge {xs : List Nat} (h : Trim xs) (h0 : 0 < xs.length) : P24 (xs.length - 1) ≤ val xs := by
 obtain ⟨d, hd, hne⟩ := h h0
 have e := val_take_succ hd
 rw [val_take_all (by omega)] at e
 have : P24 (xs.length - 1) * 1 ≤ P24 (xs.length - 1) * d := Nat.mul_le_mul_left _ (by omega)
 omega

theorem Trim.len_le {xs : List Nat} (h : Trim xs) {n : Nat} (hv : val xs < P24 n) : xs.length ≤ n := by
 rcases Nat.eq_zero_or_pos xs.length with h0 | h0
 ·omega
 ·have h1 := h.ge h0
  rcases Nat.lt_or_ge n xs.length with hlt | hge
  ·exfalso
   have : P24 n ≤ P24 (xs.length - 1) := Nat.pow_le_pow_right (by omega) (by omega)
   omega
  ·exact hge

theorem carry_step {f : List Nat} {i : Nat} (hf : f.length = i) (s : Nat) : val (f ++ [s % 16777216]) + P24 (i + 1) * (s / 16777216) = val f + P24 i * s := by
 rw [val_snoc, hf, P24_succ, Nat.mul_comm 16777216 (P24 i), Nat.mul_assoc, Nat.add_assoc, ← Nat.mul_add, Nat.mod_add_div]

theorem drop_cons {xs : List Nat} {k x : Nat} (h : xs[k]? = some x) : xs.drop k = x :: xs.drop (k + 1) := by
 obtain ⟨hl, rfl⟩ := List.getElem?_eq_some_iff.1 h
 exact List.drop_eq_getElem_cons hl

theorem val_split {xs : List Nat} {k x : Nat} (h : xs[k]? = some x) : val xs = val (xs.take k) + P24 k * x + P24 (k + 1) * val (xs.drop (k + 1)) := by
 obtain ⟨hl, _⟩ := List.getElem?_eq_some_iff.1 h
 have e := val_append (xs.take k) (xs.drop k)
 rw [List.take_append_drop, drop_cons h, val, List.length_take, Nat.min_eq_left (by omega), Nat.mul_add] at e
 rw [e, P24_succ, Nat.mul_comm 16777216 (P24 k), Nat.mul_assoc]
 omega

theorem val_lt_at {xs ys : List Nat} {k x y : Nat} (hx : xs[k]? = some x) (hy : ys[k]? = some y) (hd : xs.drop (k + 1) = ys.drop (k + 1)) (l1 : Lt24 xs) (hxy : x < y) : val xs < val ys := by
 have e1 := val_split hx
 have e2 := val_split hy
 rw [hd] at e1
 have h1 := val_lt (l1.take k)
 obtain ⟨hl, _⟩ := List.getElem?_eq_some_iff.1 hx
 rw [List.length_take, Nat.min_eq_left (by omega)] at h1
 have h2 : P24 k * (x + 1) ≤ P24 k * y := Nat.mul_le_mul_left _ hxy
 rw [Nat.mul_add, Nat.mul_one] at h2
 omega

theorem Trim.lt_of_len {xs ys : List Nat} (hy : Trim ys) (l1 : Lt24 xs) (h : xs.length < ys.length) : val xs < val ys := by
 have h1 := val_lt l1
 have h2 := hy.ge (by omega)
 have : P24 xs.length ≤ P24 (ys.length - 1) := Nat.pow_le_pow_right (by omega) (by omega)
 omega

theorem borrow_step {f : List Nat} {i a b x y cy cy' v : Nat} (hf : f.length = i) (h : val f + b = a + P24 i * cy) (hv : v + cy + y = x + 16777216 * cy') :
 val (f ++ [v]) + (b + P24 i * y) = a + P24 i * x + P24 (i + 1) * cy' := by
 have e : P24 i * (v + cy + y) = P24 i * (x + 16777216 * cy') := by rw [hv]
 rw [Nat.mul_add, Nat.mul_add, Nat.mul_add, ← Nat.mul_assoc, Nat.mul_comm (P24 i) 16777216, ← P24_succ] at e
 rw [val_snoc, hf]
 omega

end Go.Proofs.YtkpinmejfdnhbaaGreatDoor.R
namespace Go.Proofs.YtkpinmejfdnhbaaGreatDoor
open Go.Lib

theorem dec_ten {u : Nat} (h : ¬ u < 10) : decDigits u = decDigits (u / 10) ++ [UInt8.ofNat (48 + u % 10)] := by
 conv => lhs; rw [decDigits]
 rw [dif_neg h]

theorem dec_len : ∀ (k r : Nat), r < 10 ^ (k + 1) → (decDigits r).length ≤ k + 1 ∧ 0 < (decDigits r).length
 | 0, r, h => by rw [decDigits_one (by simpa using h)]; simp
 | k + 1, r, h => by
   by_cases h1 : r < 10
   ·rw [decDigits_one h1]; simp
   ·rw [dec_ten h1]
    rw [Nat.pow_succ] at h
    have := dec_len k (r / 10) (by omega)
    simp
    omega

end Go.Proofs.YtkpinmejfdnhbaaGreatDoor
namespace Go.Proofs.YtkpinmejfdnhbaaGreatDoor
open Go.Lib

def isD (b : UInt8) : Bool := decide (48 ≤ b.toNat) && decide (b.toNat ≤ 57)
def dval (l : List UInt8) : Nat := l.foldl (fun a b => a * 10 + (b.toNat - 48)) 0
theorem isD_iff {b : UInt8} : isD b = true ↔ 48 ≤ b.toNat ∧ b.toNat ≤ 57 := by simp [isD]
theorem dval_nil : dval [] = 0 := rfl
theorem dval_snoc (l : List UInt8) (b : UInt8) : dval (l ++ [b]) = dval l * 10 + (b.toNat - 48) := by simp [dval]
theorem dig_byte {r : Nat} (h : r < 10) : (UInt8.ofNat (48 + r)).toNat = 48 + r := by
 rw [UInt8.toNat_ofNat']; omega
theorem dec_all (n : Nat) : (decDigits n).all isD = true := by
 induction n using Nat.strongRecOn with
 | _ n ih =>
   by_cases h : n < 10
   ·rw [decDigits_one h]
    simp only [List.all_cons, List.all_nil, Bool.and_true]
    rw [isD_iff, dig_byte h]
    omega
   ·rw [dec_ten h, List.all_append, ih _ (by omega)]
    simp only [List.all_cons, List.all_nil, Bool.and_true, Bool.true_and]
    rw [isD_iff, dig_byte (Nat.mod_lt _ (by omega))]
    omega
theorem dec_val (n : Nat) : dval (decDigits n) = n := by
 induction n using Nat.strongRecOn with
 | _ n ih =>
   by_cases h : n < 10
   ·rw [decDigits_one h, show [UInt8.ofNat (48 + n)] = [] ++ [UInt8.ofNat (48 + n)] from rfl, dval_snoc, dig_byte h, dval_nil]; omega
   ·rw [dec_ten h, dval_snoc, ih _ (by omega), dig_byte (Nat.mod_lt _ (by omega))]; omega
end Go.Proofs.YtkpinmejfdnhbaaGreatDoor
