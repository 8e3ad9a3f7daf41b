/-
  Plain facts on numbers as strings of bytes, the most significant one first. No program in sight.
-/
import Derived.Test.YthiogjpjkdnbjaaGreatDoorPlain
namespace Go.Proofs.YthiogjpjkdnbjaaGreatDoor

/-- The value of bytes, the least significant one first. -/
def lv : List UInt8 → Nat
  | [] => 0
  | b :: t => b.toNat + 256 * lv t

/-- The value of bytes, the most significant one first. -/
def bv (l : List UInt8) : Nat := lv l.reverse

def P8 (n : Nat) : Nat := 256 ^ n
theorem P8_zero : P8 0 = 1 := rfl
theorem P8_succ (n : Nat) : P8 (n + 1) = 256 * P8 n := by unfold P8; rw [Nat.pow_succ, Nat.mul_comm]
theorem P8_pos (n : Nat) : 0 < P8 n := Nat.pow_pos (by omega)
theorem P8_add (m n : Nat) : P8 (m + n) = P8 m * P8 n := Nat.pow_add _ _ _
theorem P8_two (r : Nat) : P8 r = 2 ^ (r * 8) := by unfold P8; rw [show (256 : Nat) = 2 ^ 8 by rfl, ← Nat.pow_mul, Nat.mul_comm]
theorem P32_P8 (n : Nat) : P32 n = P8 (4 * n) := by unfold P32 P8; rw [show (4294967296 : Nat) = 256 ^ 4 by rfl, ← Nat.pow_mul]

theorem lv_append (a b : List UInt8) : lv (a ++ b) = lv a + P8 a.length * lv b := by
  induction a with
  | nil => simp [lv, P8]
  | cons x t ih => rw [List.cons_append, lv, ih, lv, List.length_cons, P8_succ, Nat.mul_add, Nat.mul_assoc]; omega

theorem lv_lt (l : List UInt8) : lv l < P8 l.length := by
  induction l with
  | nil => simp [lv, P8]
  | cons x t ih =>
    have := x.toNat_lt
    rw [lv, List.length_cons, P8_succ]
    omega

theorem bv_nil : bv [] = 0 := rfl
theorem bv_append (a b : List UInt8) : bv (a ++ b) = bv a * P8 b.length + bv b := by
  unfold bv
  rw [List.reverse_append, lv_append, List.length_reverse, Nat.mul_comm]
  omega
theorem bv_snoc (a : List UInt8) (x : UInt8) : bv (a ++ [x]) = bv a * 256 + x.toNat := by
  rw [bv_append]
  simp [bv, lv, P8]
theorem bv_cons (a : List UInt8) (x : UInt8) : bv (x :: a) = x.toNat * P8 a.length + bv a := by
  have := bv_append [x] a
  simpa [bv, lv] using this
theorem bv_lt (l : List UInt8) : bv l < P8 l.length := by
  have := lv_lt l.reverse
  rwa [List.length_reverse] at this

/-- The bytes of a number, the least significant one first, without zeros at the end. -/
def nbl : Nat → Nat → List UInt8
  | 0, _ => []
  | f + 1, n => if n = 0 then [] else UInt8.ofNat (n % 256) :: nbl f (n / 256)

/-- The bytes of a number, the most significant one first, without zeros in front. -/
def nb (n : Nat) : List UInt8 := (nbl n n).reverse

theorem lv_nbl : ∀ (f n : Nat), n ≤ f → lv (nbl f n) = n
  | 0, n, h => by obtain rfl : n = 0 := by omega
                  rfl
  | f + 1, n, h => by
    rw [nbl]
    by_cases h0 : n = 0
    · rw [if_pos h0]; exact h0.symm
    · rw [if_neg h0, lv, lv_nbl f (n / 256) (by omega)]
      simp
      omega

theorem bv_nb (n : Nat) : bv (nb n) = n := by
  unfold bv nb
  rw [List.reverse_reverse]
  exact lv_nbl n n (Nat.le_refl _)

theorem lv_pos {r : List UInt8} (h : r ≠ []) (hl : r.getLast h ≠ 0) : 0 < lv r := by
  induction r with
  | nil => exact absurd rfl h
  | cons x t ih =>
    rw [lv]
    by_cases ht : t = []
    · subst ht
      simp only [List.getLast_singleton] at hl
      have : x.toNat ≠ 0 := fun e => hl (by rw [← UInt8.toNat_inj]; simpa using e)
      simp [lv]
      omega
    · have := ih ht (by rw [List.getLast_cons ht] at hl; exact hl)
      omega

theorem nbl_lv : ∀ (r : List UInt8) (f : Nat), lv r ≤ f → (∀ h : r ≠ [], r.getLast h ≠ 0) → nbl f (lv r) = r
  | [], f, _, _ => by cases f <;> simp [nbl, lv]
  | x :: t, f, hf, hl => by
    have hp := lv_pos (r := x :: t) (by simp) (hl (by simp))
    obtain ⟨g, rfl⟩ : ∃ g, f = g + 1 := ⟨f - 1, by omega⟩
    rw [lv] at hf hp ⊢
    have hx := x.toNat_lt
    rw [nbl, if_neg (by omega), show (x.toNat + 256 * lv t) % 256 = x.toNat by omega, show (x.toNat + 256 * lv t) / 256 = lv t by omega, UInt8.ofNat_toNat]
    rw [nbl_lv t g (by omega) (fun h => by have := hl (by simp); rw [List.getLast_cons h] at this; exact this)]

/-- Without a byte 0 in front. -/
def Canon (l : List UInt8) : Prop := ∀ h : l ≠ [], l.head h ≠ 0

theorem nb_bv {l : List UInt8} (h : Canon l) : nb (bv l) = l := by
  unfold nb bv
  rw [nbl_lv l.reverse _ (Nat.le_refl _) (fun hne => by rw [List.getLast_reverse]; exact h _), List.reverse_reverse]

theorem nb_of {l : List UInt8} {n : Nat} (h : Canon l) (hv : bv l = n) : nb n = l := by rw [← hv, nb_bv h]

/-- The string without the bytes 0 in front. -/
def strip0 (l : List UInt8) : List UInt8 := l.dropWhile (· == 0)

theorem strip0_canon (l : List UInt8) : Canon (strip0 l) := by
  induction l with
  | nil => intro h; exact absurd rfl h
  | cons x t ih =>
    unfold strip0
    rw [List.dropWhile_cons]
    split
    · exact ih
    · rename_i h
      intro _
      simpa using h

theorem bv_strip0 (l : List UInt8) : bv (strip0 l) = bv l := by
  induction l with
  | nil => rfl
  | cons x t ih =>
    unfold strip0
    rw [List.dropWhile_cons]
    split
    · rename_i h
      have : x = 0 := by simpa using h
      subst this
      rw [bv_cons]
      simpa [strip0] using ih
    · rfl

theorem nb_strip (l : List UInt8) : nb (bv l) = strip0 l := nb_of (strip0_canon l) (bv_strip0 l)

theorem nb_canon (n : Nat) : Canon (nb n) := by
  have h := strip0_canon (nb n)
  rwa [← nb_strip, bv_nb] at h

theorem nb_zero : nb 0 = [] := rfl

theorem canon_pos {l : List UInt8} (h : Canon l) (hne : l ≠ []) : P8 (l.length - 1) ≤ bv l := by
  cases l with
  | nil => exact absurd rfl hne
  | cons x t =>
    have hx : x.toNat ≠ 0 := fun e => h hne (by rw [List.head_cons, ← UInt8.toNat_inj]; simpa using e)
    rw [bv_cons]
    have : 1 * P8 t.length ≤ x.toNat * P8 t.length := Nat.mul_le_mul_right _ (by omega)
    simp
    omega

theorem nb_len {n k : Nat} (h : n < P8 k) : (nb n).length ≤ k := by
  by_cases h0 : nb n = []
  · rw [h0]; exact Nat.zero_le _
  · have h1 := canon_pos (nb_canon n) h0
    rw [bv_nb] at h1
    rcases Nat.lt_or_ge k (nb n).length with h2 | h2
    · exfalso
      have : P8 k ≤ P8 ((nb n).length - 1) := Nat.pow_le_pow_right (by omega) (by omega)
      omega
    · exact h2

/-- A number as a string. -/
def natS (n : Nat) : ByteArray := ⟨(nb n).toArray⟩
/-- The value of a string. -/
def sval (s : ByteArray) : Nat := bv s.data.toList

theorem sval_natS (n : Nat) : sval (natS n) = n := by unfold sval natS; simpa using bv_nb n
theorem natS_inj {m n : Nat} (h : natS m = natS n) : m = n := by rw [← sval_natS m, h, sval_natS]
theorem sval_lt (s : ByteArray) : sval s < P8 s.size := by
  have := bv_lt s.data.toList
  rwa [Array.length_toList] at this
theorem natS_size {n k : Nat} (h : n < P8 k) : (natS n).size ≤ k := by
  have := nb_len h
  simpa [natS, ByteArray.size] using this
theorem natS_sval (s : ByteArray) : natS (sval s) = ⟨(strip0 s.data.toList).toArray⟩ := by unfold natS sval; rw [nb_strip]

/-- The number of binary digits. -/
def bitsN (n : Nat) : Nat := if n = 0 then 0 else Nat.log2 n + 1

theorem bitsN_zero : bitsN 0 = 0 := rfl
theorem bitsN_eq {n k : Nat} (h1 : 2 ^ k ≤ n) (h2 : n < 2 ^ (k + 1)) : bitsN n = k + 1 := by
  have hp : 0 < 2 ^ k := Nat.pow_pos (by omega)
  have h0 : n ≠ 0 := by omega
  unfold bitsN
  rw [if_neg h0, (Nat.log2_eq_iff h0).2 ⟨h1, h2⟩]

theorem bitsN_bounds {n : Nat} (h0 : n ≠ 0) : ∃ k, bitsN n = k + 1 ∧ 2 ^ k ≤ n ∧ n < 2 ^ (k + 1) := by
  have h := (Nat.log2_eq_iff (n := n) (k := n.log2) h0).1 rfl
  exact ⟨n.log2, bitsN_eq h.1 h.2, h.1, h.2⟩

/-- The bits of a string without a byte 0 in front. -/
theorem bitsN_cons {b : UInt8} {t : List UInt8} {k : Nat} (h1 : 2 ^ k ≤ b.toNat) (h2 : b.toNat < 2 ^ (k + 1)) : bitsN (bv (b :: t)) = 8 * t.length + (k + 1) := by
  have h3 := bv_lt t
  rw [bv_cons]
  have e8 : P8 t.length = 2 ^ (8 * t.length) := by rw [P8_two, Nat.mul_comm]
  rw [e8] at h3 ⊢
  rw [show 8 * t.length + (k + 1) = (8 * t.length + k) + 1 by omega]
  apply bitsN_eq
  · rw [Nat.pow_add, Nat.mul_comm]
    have : 2 ^ k * 2 ^ (8 * t.length) ≤ b.toNat * 2 ^ (8 * t.length) := Nat.mul_le_mul_right _ h1
    omega
  · have : (b.toNat + 1) * 2 ^ (8 * t.length) ≤ 2 ^ (k + 1) * 2 ^ (8 * t.length) := Nat.mul_le_mul_right _ h2
    rw [Nat.add_mul, Nat.one_mul, ← Nat.pow_add] at this
    rw [show 8 * t.length + k + 1 = k + 1 + 8 * t.length by omega]
    omega

/-! ### bytes and digits -/

theorem lv_take_succ {r : List UInt8} {i : Nat} {b : UInt8} (h : r[i]? = some b) : lv (r.take (i + 1)) = lv (r.take i) + P8 i * b.toNat := by
  obtain ⟨hl, rfl⟩ := List.getElem?_eq_some_iff.1 h
  rw [List.take_succ_eq_append_getElem hl, lv_append, List.length_take, Nat.min_eq_left (by omega)]
  simp [lv]

/-- One byte more in the digits. -/
theorem digit_lt {zs : List Nat} {i d : Nat} (hd : zs[i / 4]? = some d) (hv : val zs < P8 i) : d < P8 (i % 4) := by
  have e := val_split hd
  have h1 : P32 (i / 4) * d < P32 (i / 4) * P8 (i % 4) := by
    have : P8 i = P32 (i / 4) * P8 (i % 4) := by rw [P32_P8, ← P8_add]; congr 1; omega
    omega
  exact Nat.lt_of_mul_lt_mul_left h1

theorem digit_put {zs : List Nat} {i d b : Nat} (hd : zs[i / 4]? = some d) : val (zs.set (i / 4) (d + b * P8 (i % 4))) = val zs + P8 i * b := by
  have e := val_set hd (d + b * P8 (i % 4))
  rw [Nat.mul_add] at e
  have : P8 i * b = P32 (i / 4) * (b * P8 (i % 4)) := by
    rw [P32_P8, Nat.mul_comm b, ← Nat.mul_assoc, ← P8_add]; congr 2; omega
  omega

theorem rev_byte (s : ByteArray) {i j : Nat} (hj : j = s.size - 1 - i) (hi : i < s.size) (h : j < s.size) : s.data.toList.reverse[i]? = some s[j] := by
  have hl : s.data.toList.length = s.size := Array.length_toList
  rw [List.getElem?_reverse (by omega), hl]
  subst hj
  rw [List.getElem?_eq_getElem (by omega)]
  rfl

theorem P8_cases (r : Nat) (h : r < 4) : P8 r ≤ 16777216 := by
  match r, h with
  | 0, _ => decide
  | 1, _ => decide
  | 2, _ => decide
  | 3, _ => decide

/-- A byte out of the digits. -/
theorem byte_of {xs : List Nat} {i x : Nat} (hx : xs[i / 4]? = some x) (hl : Lt32 xs) : val xs / P8 i % 256 = x / P8 (i % 4) % 256 := by
  have e := val_split hx
  have hp := P32_pos (i / 4)
  obtain ⟨hlen, _⟩ := List.getElem?_eq_some_iff.1 hx
  have h1 := val_lt (hl.take (i / 4))
  rw [List.length_take, Nat.min_eq_left (by omega)] at h1
  have h2 : P8 i = P32 (i / 4) * P8 (i % 4) := by rw [P32_P8, ← P8_add]; congr 1; omega
  have h3 : val xs / P32 (i / 4) = x + 4294967296 * val (xs.drop (i / 4 + 1)) := by
    rw [e, P32_succ, Nat.mul_comm 4294967296 (P32 (i / 4)), Nat.mul_assoc, Nat.add_assoc, ← Nat.mul_add, Nat.add_comm, Nat.mul_add_div hp, Nat.div_eq_of_lt h1, Nat.add_zero]
  rw [h2, ← Nat.div_div_eq_div_mul, h3]
  generalize val (xs.drop (i / 4 + 1)) = H
  have hr : i % 4 < 4 := Nat.mod_lt _ (by omega)
  generalize i % 4 = r at hr
  match r, hr with
  | 0, _ => simp only [P8]; omega
  | 1, _ => simp only [P8]; omega
  | 2, _ => simp only [P8]; omega
  | 3, _ => simp only [P8]; omega

theorem mod_step (V i : Nat) : V % P8 (i + 1) = V % P8 i + P8 i * (V / P8 i % 256) := by
  rw [P8_succ, Nat.mul_comm 256 (P8 i), Nat.mod_mul]

end Go.Proofs.YthiogjpjkdnbjaaGreatDoor
