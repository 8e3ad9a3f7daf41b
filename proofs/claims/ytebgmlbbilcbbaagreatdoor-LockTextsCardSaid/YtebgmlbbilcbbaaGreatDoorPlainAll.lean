/- Joined by a program: Plain, PlainDiv, PlainStr, PlainPow, PlainMont, PlainR, PlainDec, PlainPar. -/
import Derived.Lib.ItoaNum
import Derived.Lib.Atoi
namespace Go.Proofs.YtebgmlbbilcbbaaGreatDoor

/-- The value of digits to the base 2^32, the least significant one first. -/
def val : List Nat → Nat
  | [] => 0
  | x :: t => x + 4294967296 * val t

/-- 2^32 to the power of n. -/
def P32 (n : Nat) : Nat := 4294967296 ^ n

theorem P32_zero : P32 0 = 1 := rfl
theorem P32_succ (n : Nat) : P32 (n + 1) = 4294967296 * P32 n := by unfold P32; rw [Nat.pow_succ, Nat.mul_comm]
theorem P32_pos (n : Nat) : 0 < P32 n := Nat.pow_pos (by omega)
theorem P32_add (m n : Nat) : P32 (m + n) = P32 m * P32 n := Nat.pow_add _ _ _

theorem val_append (xs ys : List Nat) : val (xs ++ ys) = val xs + P32 xs.length * val ys := by
  induction xs with
  | nil => simp [val, P32]
  | cons x t ih =>
    rw [List.cons_append, val, ih, val, List.length_cons, P32_succ, Nat.mul_add, Nat.mul_assoc]; omega

theorem val_snoc (xs : List Nat) (d : Nat) : val (xs ++ [d]) = val xs + P32 xs.length * d := by rw [val_append]; simp [val]

/-- All digits are less than 2^32. -/
def Lt32 (xs : List Nat) : Prop := ∀ j d : Nat, xs[j]? = some d → d < 4294967296

theorem Lt32.nil : Lt32 [] := fun j d h => by simp at h
theorem Lt32.tail {x : Nat} {xs : List Nat} (h : Lt32 (x :: xs)) : Lt32 xs := fun j d hd => h (j + 1) d (by simpa using hd)
theorem Lt32.head {x : Nat} {xs : List Nat} (h : Lt32 (x :: xs)) : x < 4294967296 := h 0 x (by simp)
theorem Lt32.append {xs ys : List Nat} (h : Lt32 xs) (k : Lt32 ys) : Lt32 (xs ++ ys) := fun j d hd => by
  rw [List.getElem?_append] at hd
  split at hd
  · exact h _ _ hd
  · exact k _ _ hd
theorem Lt32.one {d : Nat} (h : d < 4294967296) : Lt32 [d] := fun j e he => by
  match j with
  | 0 => simp at he; omega
  | j + 1 => simp at he
theorem Lt32.snoc {xs : List Nat} {d : Nat} (h : Lt32 xs) (hd : d < 4294967296) : Lt32 (xs ++ [d]) := h.append (Lt32.one hd)
theorem Lt32.take {xs : List Nat} (h : Lt32 xs) (m : Nat) : Lt32 (xs.take m) := fun j d hd => by
  rw [List.getElem?_take] at hd
  split at hd
  · exact h _ _ hd
  · cases hd
theorem Lt32.drop {xs : List Nat} (h : Lt32 xs) (m : Nat) : Lt32 (xs.drop m) := fun j d hd => by
  rw [List.getElem?_drop] at hd
  exact h _ _ hd
theorem Lt32.zeros (n : Nat) : Lt32 (List.replicate n 0) := fun j d hd => by
  rw [List.getElem?_replicate] at hd
  split at hd
  · simp at hd; omega
  · cases hd

theorem val_lt {xs : List Nat} (h : Lt32 xs) : val xs < P32 xs.length := by
  induction xs with
  | nil => simp [val, P32]
  | cons x t ih =>
    have h1 := ih h.tail
    have h2 := h.head
    rw [val, List.length_cons, P32_succ]
    omega

theorem val_zeros (n : Nat) : val (List.replicate n 0) = 0 := by
  induction n with
  | zero => rfl
  | succ n ih => rw [List.replicate_succ, val, ih]

theorem take_snoc {xs : List Nat} {k d : Nat} (h : xs[k]? = some d) : xs.take (k + 1) = xs.take k ++ [d] := by
  obtain ⟨hl, rfl⟩ := List.getElem?_eq_some_iff.1 h
  rw [List.take_succ_eq_append_getElem hl]

theorem val_take_succ {xs : List Nat} {k d : Nat} (h : xs[k]? = some d) : val (xs.take (k + 1)) = val (xs.take k) + P32 k * d := by
  obtain ⟨hl, _⟩ := List.getElem?_eq_some_iff.1 h
  rw [take_snoc h, val_snoc, List.length_take, Nat.min_eq_left (by omega)]

theorem val_take_all {xs : List Nat} {k : Nat} (h : xs.length ≤ k) : val (xs.take k) = val xs := by rw [List.take_of_length_le h]

/-- What trim leaves has the same value. -/
theorem val_trim {xs : List Nat} {m : Nat} (h : ∀ j d : Nat, m ≤ j → xs[j]? = some d → d = 0) : val (xs.take m) = val xs := by
  have e : xs.drop m = List.replicate (xs.drop m).length 0 := by
    apply List.eq_replicate_iff.2
    refine ⟨rfl, fun b hb => ?_⟩
    obtain ⟨i, hi, rfl⟩ := List.getElem_of_mem hb
    have := List.getElem?_eq_getElem hi
    rw [List.getElem?_drop] at this
    exact h _ _ (by omega) this
  have h2 := val_append (xs.take m) (xs.drop m)
  rw [List.take_append_drop, e, val_zeros] at h2
  omega

/-- The digits have no zeros at the end. -/
def Trim (xs : List Nat) : Prop := 0 < xs.length → ∃ d, xs[xs.length - 1]? = some d ∧ d ≠ 0

theorem set_front (f t : List Nat) (a v : Nat) : (f ++ a :: t).set f.length v = f ++ [v] ++ t := by
  rw [List.set_append_right _ _ (Nat.le_refl _)]
  simp

theorem Trim.ge {xs : List Nat} (h : Trim xs) (h0 : 0 < xs.length) : P32 (xs.length - 1) ≤ val xs := by
  obtain ⟨d, hd, hne⟩ := h h0
  have e := val_take_succ hd
  rw [val_take_all (by omega)] at e
  have : P32 (xs.length - 1) * 1 ≤ P32 (xs.length - 1) * d := Nat.mul_le_mul_left _ (by omega)
  omega

/-- Digits without zeros at the end: the number of them follows from the value. -/
theorem Trim.len_le {xs : List Nat} (h : Trim xs) {n : Nat} (hv : val xs < P32 n) : xs.length ≤ n := by
  rcases Nat.eq_zero_or_pos xs.length with h0 | h0
  · omega
  · have h1 := h.ge h0
    rcases Nat.lt_or_ge n xs.length with hlt | hge
    · exfalso
      have : P32 n ≤ P32 (xs.length - 1) := Nat.pow_le_pow_right (by omega) (by omega)
      omega
    · exact hge

/-- Two such lists of the same value are one. -/
theorem val_inj {xs ys : List Nat} (hl : xs.length = ys.length) (hx : Lt32 xs) (hy : Lt32 ys) (hv : val xs = val ys) : xs = ys := by
  induction xs generalizing ys with
  | nil => cases ys with
    | nil => rfl
    | cons y t => simp at hl
  | cons x t ih => cases ys with
    | nil => simp at hl
    | cons y u =>
      have h1 := hx.head
      have h2 := hy.head
      rw [val, val] at hv
      have e : x = y := by omega
      subst e
      rw [ih (by simpa using hl) hx.tail hy.tail (by omega)]

theorem get_front {f : List Nat} {i r : Nat} (hf : f.length = i) (hr : 0 < r) : (f ++ List.replicate r 0)[i]? = some 0 := by
  rw [List.getElem?_append_right (by omega), List.getElem?_replicate, if_pos (by omega)]

theorem set_zero {f : List Nat} {i r s : Nat} (hf : f.length = i) (hr : r = s + 1) (v : Nat) : (f ++ List.replicate r 0).set i v = (f ++ [v]) ++ List.replicate s 0 := by
  subst hf hr
  rw [List.replicate_succ, set_front]

theorem carry_step {f : List Nat} {i : Nat} (hf : f.length = i) (s : Nat) : val (f ++ [s % 4294967296]) + P32 (i + 1) * (s / 4294967296) = val f + P32 i * s := by
  rw [val_snoc, hf, P32_succ, Nat.mul_comm 4294967296 (P32 i), Nat.mul_assoc, Nat.add_assoc, ← Nat.mul_add, Nat.mod_add_div]

/-- The sign of a comparison. -/
def cmpI (a b : Nat) : Int := if a < b then -1 else if a = b then 0 else 1
theorem cmpI_lt {a b : Nat} (h : a < b) : cmpI a b = -1 := if_pos h
theorem cmpI_eq {a b : Nat} (h : a = b) : cmpI a b = 0 := by unfold cmpI; rw [if_neg (by omega), if_pos h]
theorem cmpI_gt {a b : Nat} (h : b < a) : cmpI a b = 1 := by unfold cmpI; rw [if_neg (by omega), if_neg (by omega)]

theorem drop_cons {xs : List Nat} {k x : Nat} (h : xs[k]? = some x) : xs.drop k = x :: xs.drop (k + 1) := by
  obtain ⟨hl, rfl⟩ := List.getElem?_eq_some_iff.1 h
  exact List.drop_eq_getElem_cons hl

theorem val_split {xs : List Nat} {k x : Nat} (h : xs[k]? = some x) : val xs = val (xs.take k) + P32 k * x + P32 (k + 1) * val (xs.drop (k + 1)) := by
  obtain ⟨hl, _⟩ := List.getElem?_eq_some_iff.1 h
  have e := val_append (xs.take k) (xs.drop k)
  rw [List.take_append_drop, drop_cons h, val, List.length_take, Nat.min_eq_left (by omega), Nat.mul_add] at e
  rw [e, P32_succ, Nat.mul_comm 4294967296 (P32 k), Nat.mul_assoc]
  omega

theorem val_lt_at {xs ys : List Nat} {k x y : Nat} (hx : xs[k]? = some x) (hy : ys[k]? = some y) (hd : xs.drop (k + 1) = ys.drop (k + 1)) (l1 : Lt32 xs) (hxy : x < y) : val xs < val ys := by
  have e1 := val_split hx
  have e2 := val_split hy
  rw [hd] at e1
  have h1 := val_lt (l1.take k)
  obtain ⟨hl, _⟩ := List.getElem?_eq_some_iff.1 hx
  rw [List.length_take, Nat.min_eq_left (by omega)] at h1
  have h2 : P32 k * (x + 1) ≤ P32 k * y := Nat.mul_le_mul_left _ hxy
  rw [Nat.mul_add, Nat.mul_one] at h2
  omega

theorem Trim.lt_of_len {xs ys : List Nat} (hy : Trim ys) (l1 : Lt32 xs) (h : xs.length < ys.length) : val xs < val ys := by
  have h1 := val_lt l1
  have h2 := hy.ge (by omega)
  have : P32 xs.length ≤ P32 (ys.length - 1) := Nat.pow_le_pow_right (by omega) (by omega)
  omega

theorem borrow_step {f : List Nat} {i a b x y cy cy' v : Nat} (hf : f.length = i) (h : val f + b = a + P32 i * cy) (hv : v + cy + y = x + 4294967296 * cy') :
    val (f ++ [v]) + (b + P32 i * y) = a + P32 i * x + P32 (i + 1) * cy' := by
  have e : P32 i * (v + cy + y) = P32 i * (x + 4294967296 * cy') := by rw [hv]
  rw [Nat.mul_add, Nat.mul_add, Nat.mul_add, ← Nat.mul_assoc, Nat.mul_comm (P32 i) 4294967296, ← P32_succ] at e
  rw [val_snoc, hf]
  omega

theorem val_zero {xs : List Nat} (ht : Trim xs) (h : val xs = 0) : xs = [] := by
  cases xs with
  | nil => rfl
  | cons x t =>
    have := ht.ge (by simp)
    have := P32_pos ((x :: t).length - 1)
    omega

theorem set_drop {xs : List Nat} {k v : Nat} (h : k < xs.length) : (xs.set k v).drop k = v :: xs.drop (k + 1) := by
  rw [List.drop_eq_getElem_cons (by simpa using h), List.getElem_set_self, List.drop_set_of_lt (by omega)]

theorem Lt32.set {xs : List Nat} (h : Lt32 xs) {k v : Nat} (hv : v < 4294967296) : Lt32 (xs.set k v) := fun j d hd => by
  rw [List.getElem?_set] at hd
  split at hd
  · split at hd
    · simp at hd; omega
    · cases hd
  · exact h j d hd

theorem val_set {xs : List Nat} {k o : Nat} (h : xs[k]? = some o) (v : Nat) : val (xs.set k v) + P32 k * o = val xs + P32 k * v := by
  obtain ⟨hl, _⟩ := List.getElem?_eq_some_iff.1 h
  have e1 := val_split h
  have e2 := val_split (xs := xs.set k v) (k := k) (x := v) (by rw [List.getElem?_set_self hl])
  rw [List.take_set_of_le (Nat.le_refl _), List.drop_set_of_lt (by omega)] at e2
  omega

/-- A step of a division by one digit. -/
theorem digit_step {X Q y r x : Nat} (h : X = Q * y + r) :
    x + 4294967296 * X = ((r * 4294967296 + x) / y + 4294967296 * Q) * y + (r * 4294967296 + x) % y := by
  have e := Nat.div_add_mod (r * 4294967296 + x) y
  rw [Nat.mul_comm] at e
  rw [Nat.add_mul, h, Nat.mul_add, ← Nat.mul_assoc]
  omega

/-- A shift to the left: the low part of a digit is a multiple of 2^k. -/
theorem shl_parts (x k : Nat) (hk : k ≤ 32) : (x * 2 ^ k) % 4294967296 = (x % 2 ^ (32 - k)) * 2 ^ k := by
  have e : (4294967296 : Nat) = 2 ^ (32 - k) * 2 ^ k := by rw [← Nat.pow_add, show 32 - k + k = 32 by omega]
  rw [e, Nat.mul_mod_mul_right]

theorem shl_high {x k : Nat} (hx : x < 4294967296) : (x * 2 ^ k) / 4294967296 < 2 ^ k := by
  apply Nat.div_lt_of_lt_mul
  rw [Nat.mul_comm 4294967296]
  rw [Nat.mul_comm]
  exact Nat.mul_lt_mul_of_pos_left hx (Nat.pow_pos (by omega))

theorem pow_le (k : Nat) (hk : k ≤ 31) : 2 ^ k ≤ 2147483648 := by
  have : 2 ^ k ≤ 2 ^ 31 := Nat.pow_le_pow_right (by omega) hk
  omega

/-- A digit of a shift to the right. -/
theorem shr_digit {x y k : Nat} (hk : k ≤ 31) (hx : x < 4294967296) :
    ((x + y * 4294967296) / 2 ^ k % 4294967296) * 2 ^ k + x % 2 ^ k = x + 4294967296 * (y % 2 ^ k) := by
  have e : (4294967296 : Nat) = 2 ^ (32 - k) * 2 ^ k := by rw [← Nat.pow_add, show 32 - k + k = 32 by omega]
  have hp : 0 < 2 ^ k := Nat.pow_pos (by omega)
  have e1 : (x + y * 4294967296) / 2 ^ k = x / 2 ^ k + y * 2 ^ (32 - k) := by
    rw [e, ← Nat.mul_assoc, Nat.add_mul_div_right _ _ hp]
  have e2 := Nat.div_add_mod y (2 ^ k)
  have e3 := Nat.div_add_mod x (2 ^ k)
  have hlt : x / 2 ^ k < 2 ^ (32 - k) := by
    apply Nat.div_lt_of_lt_mul
    rw [Nat.mul_comm, ← e]; exact hx
  have hr : y % 2 ^ k < 2 ^ k := Nat.mod_lt _ hp
  have e4 : x / 2 ^ k + y * 2 ^ (32 - k) = (x / 2 ^ k + (y % 2 ^ k) * 2 ^ (32 - k)) + 4294967296 * (y / 2 ^ k) := by
    have : y * 2 ^ (32 - k) = (y % 2 ^ k) * 2 ^ (32 - k) + 4294967296 * (y / 2 ^ k) := by
      conv => lhs; rw [← e2]
      rw [Nat.add_mul, e, Nat.mul_assoc (2 ^ (32 - k)), Nat.mul_comm (2 ^ (32 - k)), Nat.add_comm]
    omega
  have hle : (y % 2 ^ k) * 2 ^ (32 - k) + 2 ^ (32 - k) ≤ 4294967296 := by
    have : (y % 2 ^ k + 1) * 2 ^ (32 - k) ≤ 2 ^ k * 2 ^ (32 - k) := Nat.mul_le_mul_right _ hr
    rw [Nat.add_mul, Nat.one_mul, Nat.mul_comm (2 ^ k), ← e] at this
    exact this
  rw [e1, e4, Nat.add_mul_mod_self_left, Nat.mod_eq_of_lt (by omega), Nat.add_mul, Nat.mul_assoc, ← e]
  rw [Nat.mul_comm] at e3
  rw [Nat.mul_comm 4294967296]
  omega

theorem shr_step {f xs : List Nat} {i k x y a : Nat} (hf : f.length = i) (h : val f * 2 ^ k + a = val (xs.take i) + P32 i * (xs.getD i 0 % 2 ^ k)) (hx : xs[i]? = some x) (hy : xs.getD (i + 1) 0 = y) (hk : k ≤ 31) (hxl : x < 4294967296) :
    val (f ++ [(x + y * 4294967296) / 2 ^ k % 4294967296]) * 2 ^ k + a = val (xs.take (i + 1)) + P32 (i + 1) * (xs.getD (i + 1) 0 % 2 ^ k) := by
  have e := shr_digit (y := y) hk hxl
  rw [hy, val_take_succ hx, val_snoc, hf, Nat.add_mul, P32_succ]
  rw [List.getD_eq_getElem?_getD, hx] at h
  simp only [Option.getD_some] at h
  have e2 : P32 i * ((x + y * 4294967296) / 2 ^ k % 4294967296 * 2 ^ k + x % 2 ^ k) = P32 i * (x + 4294967296 * (y % 2 ^ k)) := by rw [e]
  rw [Nat.mul_add, Nat.mul_add] at e2
  rw [Nat.mul_assoc (P32 i), Nat.mul_comm 4294967296 (P32 i), Nat.mul_assoc (P32 i) 4294967296]
  omega

theorem mul_step {qs : List Nat} {i j cy x y z V T : Nat} (hz : qs[i + j]? = some z) (h : val qs + P32 (i + j) * cy = V + P32 i * x * T) :
    val (qs.set (i + j) ((cy + (x * y + z)) % 4294967296)) + P32 (i + (j + 1)) * ((cy + (x * y + z)) / 4294967296) = V + P32 i * x * (T + P32 j * y) := by
  have e := val_set hz ((cy + (x * y + z)) % 4294967296)
  have e2 : P32 (i + j) * ((cy + (x * y + z)) % 4294967296) + P32 (i + (j + 1)) * ((cy + (x * y + z)) / 4294967296) = P32 (i + j) * (cy + (x * y + z)) := by
    rw [← Nat.add_assoc i j 1, P32_succ, Nat.mul_comm 4294967296 (P32 (i + j)), Nat.mul_assoc, ← Nat.mul_add, Nat.mod_add_div]
  rw [Nat.mul_add (P32 (i + j)), Nat.mul_add (P32 (i + j))] at e2
  have e3 : P32 i * x * (P32 j * y) = P32 (i + j) * (x * y) := by
    rw [P32_add, Nat.mul_assoc, Nat.mul_assoc, Nat.mul_left_comm x]
  rw [Nat.mul_add, e3]
  omega

theorem take_step {f : List Nat} {i cy bw cy' b' q d u dg lo X Y : Nat} (hf : f.length = i) (h : val f + q * X = Y + P32 i * (cy + bw)) (hs : cy + q * d = lo + 4294967296 * cy') (hd : dg + lo + bw = u + 4294967296 * b') :
    val (f ++ [dg]) + q * (X + P32 i * d) = Y + P32 i * u + P32 (i + 1) * (cy' + b') := by
  have e1 : P32 i * (dg + q * d + cy + bw) = P32 i * dg + P32 i * (q * d) + P32 i * (cy + bw) := by rw [← Nat.mul_add, ← Nat.mul_add, Nat.add_assoc (dg + q * d)]
  have e3 : q * (P32 i * d) = P32 i * (q * d) := by rw [Nat.mul_left_comm]
  have hs2 : dg + q * d + cy + bw = u + 4294967296 * (cy' + b') := by omega
  have e4 : P32 i * (dg + q * d + cy + bw) = P32 i * u + P32 (i + 1) * (cy' + b') := by
    rw [hs2, Nat.mul_add, P32_succ, ← Nat.mul_assoc (P32 i), Nat.mul_comm (P32 i) 4294967296]
  rw [val_snoc, hf, Nat.mul_add, e3]
  omega

theorem window_take {L : List Nat} {j i u : Nat} (h : L[j + i]? = some u) : val ((L.drop j).take (i + 1)) = val ((L.drop j).take i) + P32 i * u :=
  val_take_succ (by rw [List.getElem?_drop]; exact h)

theorem window_set {L f : List Nat} {j i u : Nat} (hl : (L.take j).length = j) (hf : f.length = i) (h : L[j + i]? = some u) (v : Nat) :
    (L.take j ++ f ++ L.drop (j + i)).set (j + i) v = L.take j ++ (f ++ [v]) ++ L.drop (j + (i + 1)) := by
  have e : (L.take j ++ f).length = j + i := by rw [List.length_append, hl, hf]
  rw [drop_cons h]
  have := set_front (L.take j ++ f) (L.drop (j + i + 1)) u v
  rw [e] at this
  rw [this, List.append_assoc (L.take j), Nat.add_assoc j i 1]

end Go.Proofs.YtebgmlbbilcbbaaGreatDoor
namespace Go.Proofs.YtebgmlbbilcbbaaGreatDoor

section
variable {p u0 u1 u2 v0 v1 lo lov U V : Nat}

/-- The first digit of the dividend is not greater than that of the divisor. -/
theorem est_top (hU : U = lo + p * (u0 + 4294967296 * (u1 + 4294967296 * u2))) (hV : V = lov + p * (v0 + 4294967296 * v1)) (hlov : lov < p) (k0 : v0 < 4294967296) (hlt : U < 4294967296 * V) : u2 ≤ v1 := by
  rcases Nat.lt_or_ge v1 u2 with h | h
  · exfalso
    have h1 : V < p * (4294967296 * (v1 + 1)) := by
      have : p * (v0 + 4294967296 * v1 + 1) ≤ p * (4294967296 * (v1 + 1)) := Nat.mul_le_mul_left _ (by omega)
      rw [Nat.mul_add p _ 1] at this
      omega
    have h2 : p * (4294967296 * (4294967296 * (v1 + 1))) ≤ p * (u0 + 4294967296 * (u1 + 4294967296 * u2)) := Nat.mul_le_mul_left _ (by omega)
    have h3 : 4294967296 * V < 4294967296 * (p * (4294967296 * (v1 + 1))) := by omega
    have h4 : 4294967296 * (p * (4294967296 * (v1 + 1))) = p * (4294967296 * (4294967296 * (v1 + 1))) := Nat.mul_left_comm _ _ _
    omega
  · exact h

theorem est_more (hU : U = lo + p * (u0 + 4294967296 * (u1 + 4294967296 * u2))) (hlo : lo < p) (hV : V = lov + p * (v0 + 4294967296 * v1)) (l0 : u0 < 4294967296) {q t r : Nat} (hq : q * V ≤ U) (ht : t * v1 + r = u2 * 4294967296 + u1) (hr : r < v1) : q ≤ t := by
  rcases Nat.lt_or_ge t q with h | h
  · exfalso
    have h1 : (t + 1) * V ≤ q * V := Nat.mul_le_mul_right _ h
    have h2 : p * (4294967296 * ((t + 1) * v1)) ≤ (t + 1) * V := by
      have : (t + 1) * (p * (4294967296 * v1)) ≤ (t + 1) * V := Nat.mul_le_mul_left _ (by
        rw [hV]
        have : p * (4294967296 * v1) ≤ p * (v0 + 4294967296 * v1) := Nat.mul_le_mul_left _ (by omega)
        omega)
      have e : (t + 1) * (p * (4294967296 * v1)) = p * (4294967296 * ((t + 1) * v1)) := by
        rw [Nat.mul_left_comm (t + 1) p, Nat.mul_left_comm (t + 1) 4294967296]
      omega
    have h3 : (t + 1) * v1 = t * v1 + v1 := by rw [Nat.add_mul, Nat.one_mul]
    have h4 : p * (u0 + 4294967296 * (u1 + 4294967296 * u2) + 1) ≤ p * (4294967296 * ((t + 1) * v1)) := Nat.mul_le_mul_left _ (by omega)
    rw [Nat.mul_add p _ 1] at h4
    omega
  · exact h

theorem est_over (hU : U = lo + p * (u0 + 4294967296 * (u1 + 4294967296 * u2))) (hlo : lo < p) (hV : V = lov + p * (v0 + 4294967296 * v1)) {q t r : Nat} (hq : q * V ≤ U) (ht : t * v1 + r = u2 * 4294967296 + u1) (h : r * 4294967296 + u0 < t * v0) : q < t := by
  rcases Nat.lt_or_ge q t with h1 | h1
  · exact h1
  · exfalso
    have h2 : t * V ≤ q * V := Nat.mul_le_mul_right _ h1
    have h3 : t * (p * (v0 + 4294967296 * v1)) ≤ t * V := Nat.mul_le_mul_left _ (by omega)
    have e : t * (p * (v0 + 4294967296 * v1)) = p * (t * v0 + 4294967296 * (t * v1)) := by
      rw [Nat.mul_left_comm t p, Nat.mul_add t, Nat.mul_left_comm t 4294967296]
    have h4 : p * (u0 + 4294967296 * (u1 + 4294967296 * u2) + 1) ≤ p * (t * v0 + 4294967296 * (t * v1)) := Nat.mul_le_mul_left _ (by omega)
    rw [Nat.mul_add p _ 1] at h4
    omega

theorem est_post (hp : 0 < p) (hU : U = lo + p * (u0 + 4294967296 * (u1 + 4294967296 * u2))) (hV : V = lov + p * (v0 + 4294967296 * v1)) (hlov : lov < p) (hv : 0 < v1) {t r : Nat} (ht : t * v1 + r = u2 * 4294967296 + u1) (htl : t < 4294967296) (h : t * v0 ≤ r * 4294967296 + u0) : t * V < U + V := by
  have e : t * V = t * lov + p * (t * v0 + 4294967296 * (t * v1)) := by
    rw [hV, Nat.mul_add, Nat.mul_left_comm t p, Nat.mul_add t, Nat.mul_left_comm t 4294967296]
  have h1 : p * (t * v0 + 4294967296 * (t * v1)) ≤ p * (u0 + 4294967296 * (u1 + 4294967296 * u2)) := Nat.mul_le_mul_left _ (by omega)
  have h2 : t * lov ≤ t * p := Nat.mul_le_mul_left _ (by omega)
  have h3 : t * p < 4294967296 * p := Nat.mul_lt_mul_of_pos_right htl hp
  have h4 : p * 4294967296 ≤ p * (v0 + 4294967296 * v1) := Nat.mul_le_mul_left _ (by omega)
  omega

end

/-- A list of digits from place m on, three of them named. -/
theorem val_three {us : List Nat} {m u0 u1 u2 : Nat} (hl : us.length = m + 3) (h0 : us[m]? = some u0) (h1 : us[m + 1]? = some u1) (h2 : us[m + 2]? = some u2) :
    val us = val (us.take m) + P32 m * (u0 + 4294967296 * (u1 + 4294967296 * u2)) := by
  have e := val_append (us.take m) (us.drop m)
  rw [List.take_append_drop, drop_cons h0, drop_cons h1, drop_cons h2, List.drop_of_length_le (by omega), List.length_take, Nat.min_eq_left (by omega)] at e
  simpa [val] using e

theorem val_two {us : List Nat} {m u0 u1 : Nat} (hl : us.length = m + 2) (h0 : us[m]? = some u0) (h1 : us[m + 1]? = some u1) :
    val us = val (us.take m) + P32 m * (u0 + 4294967296 * u1) := by
  have e := val_append (us.take m) (us.drop m)
  rw [List.take_append_drop, drop_cons h0, drop_cons h1, List.drop_of_length_le (by omega), List.length_take, Nat.min_eq_left (by omega)] at e
  simpa [val] using e

theorem val_take_lt {us : List Nat} {m : Nat} (h : Lt32 us) (hm : m ≤ us.length) : val (us.take m) < P32 m := by
  have := val_lt (h.take m)
  rwa [List.length_take, Nat.min_eq_left hm] at this

/-- A value bounds how many digits are not zero. -/
theorem zeros_of_val {us : List Nat} {n : Nat} (hv : val us < P32 n) : ∀ j d : Nat, n ≤ j → us[j]? = some d → d = 0 := by
  intro j d hj hd
  rcases Nat.eq_zero_or_pos d with h | h
  · exact h
  · exfalso
    have e := val_split hd
    have h1 : P32 j * 1 ≤ P32 j * d := Nat.mul_le_mul_left _ h
    have h2 : P32 n ≤ P32 j := Nat.pow_le_pow_right (by omega) hj
    omega

/-- A step of the division: the window of the dividend gives up its multiple of the divisor. -/
theorem div_step {L us : List Nat} {j q V Q U0 : Nat} (hj : j ≤ L.length) (hus : val us = val (L.drop j) % V) (hq : q = val (L.drop j) / V)
    (h : val L + P32 (j + 1) * Q * V = U0) : val (L.take j ++ us) + P32 j * (q + 4294967296 * Q) * V = U0 := by
  have e := val_append (L.take j) (L.drop j)
  rw [List.take_append_drop, List.length_take, Nat.min_eq_left hj] at e
  rw [val_append, List.length_take, Nat.min_eq_left hj, hus, hq, ← h, e, P32_succ]
  have h1 := Nat.div_add_mod (val (L.drop j)) V
  have e2 : P32 j * (val (L.drop j) / V + 4294967296 * Q) * V = P32 j * (V * (val (L.drop j) / V)) + 4294967296 * P32 j * Q * V := by
    rw [Nat.mul_add (P32 j), Nat.add_mul, Nat.mul_assoc (P32 j), Nat.mul_comm (val (L.drop j) / V) V, ← Nat.mul_assoc (P32 j) 4294967296 Q, Nat.mul_comm (P32 j) 4294967296]
  have e3 : P32 j * val (L.drop j) = P32 j * (V * (val (L.drop j) / V)) + P32 j * (val (L.drop j) % V) := by rw [← Nat.mul_add, h1]
  omega

/-- The normalized divisor: its top digit is at least 2^31, and it has no digit more. -/
theorem norm_facts0 {ys : List Nat} {n y p H B : Nat} (hl : ys.length = n + 1) (hy : ys[n]? = some y) (hlt : Lt32 ys) (hp : 0 < p) (h1 : H ≤ y * p) (h2 : (y + 1) * p ≤ B) :
    P32 n * H ≤ val ys * p ∧ val ys * p < P32 n * B := by
  have e := val_split hy
  have e0 : val (ys.drop (n + 1)) = 0 := by rw [List.drop_of_length_le (by omega)]; rfl
  rw [e0, Nat.mul_zero, Nat.add_zero] at e
  have hb := val_take_lt (m := n) hlt (by omega)
  constructor
  · have h3 : P32 n * H ≤ P32 n * (y * p) := Nat.mul_le_mul_left _ h1
    rw [e, Nat.add_mul, Nat.mul_assoc (P32 n)]
    omega
  · have h3 : val ys < P32 n * (y + 1) := by rw [e, Nat.mul_add, Nat.mul_one]; omega
    have h4 : val ys * p < P32 n * (y + 1) * p := Nat.mul_lt_mul_of_pos_right h3 hp
    have h5 : P32 n * ((y + 1) * p) ≤ P32 n * B := Nat.mul_le_mul_left _ h2
    rw [Nat.mul_assoc] at h4
    omega

theorem norm_facts {ys : List Nat} {n y p : Nat} (hl : ys.length = n + 1) (hy : ys[n]? = some y) (hlt : Lt32 ys) (hp : 0 < p) (h1 : 2147483648 ≤ y * p) (h2 : (y + 1) * p ≤ 4294967296) :
    2147483648 * P32 n ≤ val ys * p ∧ val ys * p < P32 (n + 1) := by
  rw [P32_succ, Nat.mul_comm 2147483648, Nat.mul_comm 4294967296]
  exact norm_facts0 hl hy hlt hp h1 h2

/-- The upper digits of the shifted dividend are less than the divisor. -/
theorem top_lt0 {us : List Nat} {X N m n p H V : Nat} (hv : val us = X * p) (hX : X < P32 N) (hp : 0 < p) (hH : p ≤ H) (hk : m + n = N) (hm : m ≤ us.length) (hV : P32 n * H ≤ V) : val (us.drop m) < V := by
  have e := val_append (us.take m) (us.drop m)
  rw [List.take_append_drop, List.length_take, Nat.min_eq_left hm] at e
  have h1 : P32 m * val (us.drop m) < P32 m * (P32 n * p) := by
    have : X * p < P32 N * p := Nat.mul_lt_mul_of_pos_right hX hp
    rw [← hk, P32_add, Nat.mul_assoc] at this
    omega
  have h2 := Nat.lt_of_mul_lt_mul_left h1
  have h3 : P32 n * p ≤ P32 n * H := Nat.mul_le_mul_left _ hH
  omega

theorem top_lt {us : List Nat} {X N m n s V : Nat} (hv : val us = X * 2 ^ s) (hX : X < P32 N) (hs : s ≤ 31) (hk : m + n = N) (hm : m ≤ us.length) (hV : 2147483648 * P32 n ≤ V) : val (us.drop m) < V := by
  rw [Nat.mul_comm 2147483648] at hV
  exact top_lt0 hv hX (Nat.pow_pos (by omega)) (pow_le s hs) hk hm hV

theorem window_val {L : List Nat} {j n V : Nat} (h : val (L.drop (j + 1)) < V) (hV : V < P32 n) : val ((L.drop j).take (n + 1)) = val (L.drop j) := by
  apply val_trim
  intro i d hi hd
  obtain ⟨i', rfl⟩ : ∃ i', i = i' + 1 := ⟨i - 1, by omega⟩
  rw [List.getElem?_drop] at hd
  exact zeros_of_val (Nat.lt_trans h hV) i' d (by omega) (by rw [List.getElem?_drop, ← hd]; congr 1; omega)

theorem window_lt {L : List Nat} {j d V : Nat} (h : val (L.drop (j + 1)) < V) (hd : L[j]? = some d) (hdl : d < 4294967296) : val (L.drop j) < 4294967296 * V := by
  rw [drop_cons hd, val]
  omega

theorem window_rest {L : List Nat} {j n V : Nat} (h : val (L.drop (j + 1)) < V) (hV : V < P32 n) : val (L.drop (j + (n + 1))) = 0 := by
  have e := val_trim (xs := L.drop (j + (n + 1))) (m := 0) (fun i d _ hd => by
    rw [List.getElem?_drop] at hd
    exact zeros_of_val (Nat.lt_trans h hV) (n + i) d (by omega) (by rw [List.getElem?_drop, ← hd]; congr 1; omega))
  rw [List.take_zero] at e
  exact e.symm

/-- The quotient and the rest do not change if both numbers are shifted. -/
theorem shifted_div {x y s : Nat} : (x * 2 ^ s) / (y * 2 ^ s) = x / y ∧ (x * 2 ^ s) % (y * 2 ^ s) = x % y * 2 ^ s :=
  ⟨Nat.mul_div_mul_right _ _ (Nat.pow_pos (by omega)), Nat.mul_mod_mul_right _ _ _⟩

theorem add_front_val (T us R : List Nat) (h : val R = 0) : val (T ++ us ++ R) = val (T ++ us) := by rw [val_append, h]; omega

theorem took_none {u t V W q P : Nat} (hV : 0 < V) (h0 : u + t * V = W + P * 0) (hq : q = W / V) (hle : q ≤ t) : t = q ∧ u = W % V := by
  have h : u + t * V = W := by rw [Nat.mul_zero] at h0; exact h0
  have h1 : t ≤ W / V := (Nat.le_div_iff_mul_le hV).2 (by omega)
  obtain rfl : t = q := by omega
  have h2 := Nat.div_add_mod W V
  rw [← hq, Nat.mul_comm] at h2
  exact ⟨rfl, by omega⟩

theorem took_one {u u2 t V W q P c : Nat} (hV : 0 < V) (hP : V < P) (h : u + t * V = W + P) (hu : u < P) (hu2 : u2 < P) (hq : q = W / V) (hle : q ≤ t) (hle2 : t ≤ q + 1) (h2 : u2 + P * c = u + V) : t = q + 1 ∧ u2 = W % V := by
  have h3 := Nat.div_add_mod W V
  have h4 := Nat.mod_lt W hV
  rw [← hq, Nat.mul_comm] at h3
  have ht : t = q + 1 := by
    rcases Nat.lt_or_ge q t with h5 | h5
    · omega
    · exfalso
      obtain rfl : t = q := by omega
      omega
  subst ht
  rw [Nat.add_mul, Nat.one_mul] at h
  refine ⟨rfl, ?_⟩
  match c, h2 with
  | 0, h2 => rw [Nat.mul_zero] at h2; omega
  | 1, h2 => rw [Nat.mul_one] at h2; omega
  | c + 2, h2 =>
    exfalso
    have : P * 2 ≤ P * (c + 2) := Nat.mul_le_mul_left _ (by omega)
    omega

theorem window_again {L us : List Nat} {i n N : Nat} (hL : L.length = N + 1) (hu : us.length = n + 1) (hin : i + n ≤ N) :
    ((L.take i ++ us ++ L.drop (i + (n + 1))).drop i).take (n + 1) = us ∧ (L.take i ++ us ++ L.drop (i + (n + 1))).take i = L.take i ∧ (L.take i ++ us ++ L.drop (i + (n + 1))).drop (i + (n + 1)) = L.drop (i + (n + 1)) := by
  have hti : (L.take i).length = i := by rw [List.length_take]; omega
  refine ⟨?_, ?_, ?_⟩
  · rw [List.append_assoc, List.drop_append_of_le_length (by omega), List.drop_of_length_le (by omega), List.nil_append, List.take_append_of_le_length (by omega), List.take_of_length_le (by omega)]
  · rw [List.append_assoc, List.take_append_of_le_length (by omega), List.take_of_length_le (by omega)]
  · rw [List.drop_append, List.drop_of_length_le (by rw [List.length_append]; omega), List.length_append, hti, hu, Nat.sub_self, List.drop_zero, List.nil_append]

/-- What a round of the division leaves. -/
theorem window_step {L us Q : List Nat} {i n N q V U0 : Nat} (hL : L.length = N + 1) (hLt : Lt32 L) (hu : us.length = n + 1) (hut : Lt32 us) (hin : i + n ≤ N) (hQl : i < Q.length) (hR : val (L.drop (i + (n + 1))) = 0)
    (hus : val us = val (L.drop i) % V) (hq : q = val (L.drop i) / V) (hV : 0 < V) (hI : val L + P32 (i + 1) * val (Q.drop (i + 1)) * V = U0) :
    (L.take i ++ us ++ L.drop (i + (n + 1))).length = N + 1 ∧ Lt32 (L.take i ++ us ++ L.drop (i + (n + 1))) ∧ val (L.take i ++ us ++ L.drop (i + (n + 1))) + P32 i * val ((Q.set i q).drop i) * V = U0 ∧ val ((L.take i ++ us ++ L.drop (i + (n + 1))).drop i) < V := by
  have hti : (L.take i).length = i := by rw [List.length_take]; omega
  refine ⟨by rw [List.length_append, List.length_append, hti, hu, List.length_drop]; omega, ((hLt.take i).append hut).append (hLt.drop _), ?_, ?_⟩
  · rw [add_front_val _ _ _ hR, set_drop hQl, val]
    exact div_step (by omega) hus hq hI
  · have hd : (L.take i ++ us ++ L.drop (i + (n + 1))).drop i = us ++ L.drop (i + (n + 1)) := by
      rw [List.append_assoc, List.drop_append_of_le_length (by omega), List.drop_of_length_le (by omega), List.nil_append]
    rw [hd, val_append, hR, Nat.mul_zero, Nat.add_zero, hus]
    exact Nat.mod_lt _ hV

end Go.Proofs.YtebgmlbbilcbbaaGreatDoor
namespace Go.Proofs.YtebgmlbbilcbbaaGreatDoor

/-- The value of bytes, the least significant one first. -/
def lv : List UInt8 → Nat
  | [] => 0
  | b :: t => b.toNat + 256 * lv t

/-- The value of bytes, the most significant one first. -/
def bv (l : List UInt8) : Nat := lv l.reverse

def P8 (n : Nat) : Nat := 256 ^ n
theorem P8_zero : P8 0 = 1 := rfl
theorem P8_succ (n : Nat) : P8 (n + 1) = 256 * P8 n := by unfold P8; rw [Nat.pow_succ, Nat.mul_comm]
theorem P8_pos (n : Nat) : 0 < P8 n := Nat.pow_pos (by omega)
theorem P8_add (m n : Nat) : P8 (m + n) = P8 m * P8 n := Nat.pow_add _ _ _
theorem P8_two (r : Nat) : P8 r = 2 ^ (r * 8) := by unfold P8; rw [show (256 : Nat) = 2 ^ 8 by rfl, ← Nat.pow_mul, Nat.mul_comm]
theorem P32_P8 (n : Nat) : P32 n = P8 (4 * n) := by unfold P32 P8; rw [show (4294967296 : Nat) = 256 ^ 4 by rfl, ← Nat.pow_mul]

theorem lv_append (a b : List UInt8) : lv (a ++ b) = lv a + P8 a.length * lv b := by
  induction a with
  | nil => simp [lv, P8]
  | cons x t ih => rw [List.cons_append, lv, ih, lv, List.length_cons, P8_succ, Nat.mul_add, Nat.mul_assoc]; omega

theorem lv_lt (l : List UInt8) : lv l < P8 l.length := by
  induction l with
  | nil => simp [lv, P8]
  | cons x t ih =>
    have := x.toNat_lt
    rw [lv, List.length_cons, P8_succ]
    omega

theorem bv_nil : bv [] = 0 := rfl
theorem bv_append (a b : List UInt8) : bv (a ++ b) = bv a * P8 b.length + bv b := by
  unfold bv
  rw [List.reverse_append, lv_append, List.length_reverse, Nat.mul_comm]
  omega
theorem bv_snoc (a : List UInt8) (x : UInt8) : bv (a ++ [x]) = bv a * 256 + x.toNat := by
  rw [bv_append]
  simp [bv, lv, P8]
theorem bv_cons (a : List UInt8) (x : UInt8) : bv (x :: a) = x.toNat * P8 a.length + bv a := by
  have := bv_append [x] a
  simpa [bv, lv] using this
theorem bv_lt (l : List UInt8) : bv l < P8 l.length := by
  have := lv_lt l.reverse
  rwa [List.length_reverse] at this

/-- The bytes of a number, the least significant one first, without zeros at the end. -/
def nbl : Nat → Nat → List UInt8
  | 0, _ => []
  | f + 1, n => if n = 0 then [] else UInt8.ofNat (n % 256) :: nbl f (n / 256)

/-- The bytes of a number, the most significant one first, without zeros in front. -/
def nb (n : Nat) : List UInt8 := (nbl n n).reverse

theorem lv_nbl : ∀ (f n : Nat), n ≤ f → lv (nbl f n) = n
  | 0, n, h => by obtain rfl : n = 0 := by omega
                  rfl
  | f + 1, n, h => by
    rw [nbl]
    by_cases h0 : n = 0
    · rw [if_pos h0]; exact h0.symm
    · rw [if_neg h0, lv, lv_nbl f (n / 256) (by omega)]
      simp
      omega

theorem bv_nb (n : Nat) : bv (nb n) = n := by
  unfold bv nb
  rw [List.reverse_reverse]
  exact lv_nbl n n (Nat.le_refl _)

theorem lv_pos {r : List UInt8} (h : r ≠ []) (hl : r.getLast h ≠ 0) : 0 < lv r := by
  induction r with
  | nil => exact absurd rfl h
  | cons x t ih =>
    rw [lv]
    by_cases ht : t = []
    · subst ht
      simp only [List.getLast_singleton] at hl
      have : x.toNat ≠ 0 := fun e => hl (by rw [← UInt8.toNat_inj]; simpa using e)
      simp [lv]
      omega
    · have := ih ht (by rw [List.getLast_cons ht] at hl; exact hl)
      omega

theorem nbl_lv : ∀ (r : List UInt8) (f : Nat), lv r ≤ f → (∀ h : r ≠ [], r.getLast h ≠ 0) → nbl f (lv r) = r
  | [], f, _, _ => by cases f <;> simp [nbl, lv]
  | x :: t, f, hf, hl => by
    have hp := lv_pos (r := x :: t) (by simp) (hl (by simp))
    obtain ⟨g, rfl⟩ : ∃ g, f = g + 1 := ⟨f - 1, by omega⟩
    rw [lv] at hf hp ⊢
    have hx := x.toNat_lt
    rw [nbl, if_neg (by omega), show (x.toNat + 256 * lv t) % 256 = x.toNat by omega, show (x.toNat + 256 * lv t) / 256 = lv t by omega, UInt8.ofNat_toNat]
    rw [nbl_lv t g (by omega) (fun h => by have := hl (by simp); rw [List.getLast_cons h] at this; exact this)]

/-- Without a byte 0 in front. -/
def Canon (l : List UInt8) : Prop := ∀ h : l ≠ [], l.head h ≠ 0

theorem nb_bv {l : List UInt8} (h : Canon l) : nb (bv l) = l := by
  unfold nb bv
  rw [nbl_lv l.reverse _ (Nat.le_refl _) (fun hne => by rw [List.getLast_reverse]; exact h _), List.reverse_reverse]

theorem nb_of {l : List UInt8} {n : Nat} (h : Canon l) (hv : bv l = n) : nb n = l := by rw [← hv, nb_bv h]

/-- The string without the bytes 0 in front. -/
def strip0 (l : List UInt8) : List UInt8 := l.dropWhile (· == 0)

theorem strip0_canon (l : List UInt8) : Canon (strip0 l) := by
  induction l with
  | nil => intro h; exact absurd rfl h
  | cons x t ih =>
    unfold strip0
    rw [List.dropWhile_cons]
    split
    · exact ih
    · rename_i h
      intro _
      simpa using h

theorem bv_strip0 (l : List UInt8) : bv (strip0 l) = bv l := by
  induction l with
  | nil => rfl
  | cons x t ih =>
    unfold strip0
    rw [List.dropWhile_cons]
    split
    · rename_i h
      have : x = 0 := by simpa using h
      subst this
      rw [bv_cons]
      simpa [strip0] using ih
    · rfl

theorem nb_strip (l : List UInt8) : nb (bv l) = strip0 l := nb_of (strip0_canon l) (bv_strip0 l)

theorem nb_canon (n : Nat) : Canon (nb n) := by
  have h := strip0_canon (nb n)
  rwa [← nb_strip, bv_nb] at h

theorem nb_zero : nb 0 = [] := rfl

theorem canon_pos {l : List UInt8} (h : Canon l) (hne : l ≠ []) : P8 (l.length - 1) ≤ bv l := by
  cases l with
  | nil => exact absurd rfl hne
  | cons x t =>
    have hx : x.toNat ≠ 0 := fun e => h hne (by rw [List.head_cons, ← UInt8.toNat_inj]; simpa using e)
    rw [bv_cons]
    have : 1 * P8 t.length ≤ x.toNat * P8 t.length := Nat.mul_le_mul_right _ (by omega)
    simp
    omega

theorem nb_len {n k : Nat} (h : n < P8 k) : (nb n).length ≤ k := by
  by_cases h0 : nb n = []
  · rw [h0]; exact Nat.zero_le _
  · have h1 := canon_pos (nb_canon n) h0
    rw [bv_nb] at h1
    rcases Nat.lt_or_ge k (nb n).length with h2 | h2
    · exfalso
      have : P8 k ≤ P8 ((nb n).length - 1) := Nat.pow_le_pow_right (by omega) (by omega)
      omega
    · exact h2

/-- A number as a string. -/
def natS (n : Nat) : ByteArray := ⟨(nb n).toArray⟩
/-- The value of a string. -/
def sval (s : ByteArray) : Nat := bv s.data.toList

theorem sval_natS (n : Nat) : sval (natS n) = n := by unfold sval natS; simpa using bv_nb n
theorem natS_inj {m n : Nat} (h : natS m = natS n) : m = n := by rw [← sval_natS m, h, sval_natS]
theorem sval_lt (s : ByteArray) : sval s < P8 s.size := by
  have := bv_lt s.data.toList
  rwa [Array.length_toList] at this
theorem natS_size {n k : Nat} (h : n < P8 k) : (natS n).size ≤ k := by
  have := nb_len h
  simpa [natS, ByteArray.size] using this
theorem natS_sval (s : ByteArray) : natS (sval s) = ⟨(strip0 s.data.toList).toArray⟩ := by unfold natS sval; rw [nb_strip]

/-- The number of binary digits. -/
def bitsN (n : Nat) : Nat := if n = 0 then 0 else Nat.log2 n + 1

theorem bitsN_zero : bitsN 0 = 0 := rfl
theorem bitsN_eq {n k : Nat} (h1 : 2 ^ k ≤ n) (h2 : n < 2 ^ (k + 1)) : bitsN n = k + 1 := by
  have hp : 0 < 2 ^ k := Nat.pow_pos (by omega)
  have h0 : n ≠ 0 := by omega
  unfold bitsN
  rw [if_neg h0, (Nat.log2_eq_iff h0).2 ⟨h1, h2⟩]

theorem bitsN_bounds {n : Nat} (h0 : n ≠ 0) : ∃ k, bitsN n = k + 1 ∧ 2 ^ k ≤ n ∧ n < 2 ^ (k + 1) := by
  have h := (Nat.log2_eq_iff (n := n) (k := n.log2) h0).1 rfl
  exact ⟨n.log2, bitsN_eq h.1 h.2, h.1, h.2⟩

/-- The bits of a string without a byte 0 in front. -/
theorem bitsN_cons {b : UInt8} {t : List UInt8} {k : Nat} (h1 : 2 ^ k ≤ b.toNat) (h2 : b.toNat < 2 ^ (k + 1)) : bitsN (bv (b :: t)) = 8 * t.length + (k + 1) := by
  have h3 := bv_lt t
  rw [bv_cons]
  have e8 : P8 t.length = 2 ^ (8 * t.length) := by rw [P8_two, Nat.mul_comm]
  rw [e8] at h3 ⊢
  rw [show 8 * t.length + (k + 1) = (8 * t.length + k) + 1 by omega]
  apply bitsN_eq
  · rw [Nat.pow_add, Nat.mul_comm]
    have : 2 ^ k * 2 ^ (8 * t.length) ≤ b.toNat * 2 ^ (8 * t.length) := Nat.mul_le_mul_right _ h1
    omega
  · have : (b.toNat + 1) * 2 ^ (8 * t.length) ≤ 2 ^ (k + 1) * 2 ^ (8 * t.length) := Nat.mul_le_mul_right _ h2
    rw [Nat.add_mul, Nat.one_mul, ← Nat.pow_add] at this
    rw [show 8 * t.length + k + 1 = k + 1 + 8 * t.length by omega]
    omega

/-! ### bytes and digits -/

theorem lv_take_succ {r : List UInt8} {i : Nat} {b : UInt8} (h : r[i]? = some b) : lv (r.take (i + 1)) = lv (r.take i) + P8 i * b.toNat := by
  obtain ⟨hl, rfl⟩ := List.getElem?_eq_some_iff.1 h
  rw [List.take_succ_eq_append_getElem hl, lv_append, List.length_take, Nat.min_eq_left (by omega)]
  simp [lv]

/-- One byte more in the digits. -/
theorem digit_lt {zs : List Nat} {i d : Nat} (hd : zs[i / 4]? = some d) (hv : val zs < P8 i) : d < P8 (i % 4) := by
  have e := val_split hd
  have h1 : P32 (i / 4) * d < P32 (i / 4) * P8 (i % 4) := by
    have : P8 i = P32 (i / 4) * P8 (i % 4) := by rw [P32_P8, ← P8_add]; congr 1; omega
    omega
  exact Nat.lt_of_mul_lt_mul_left h1

theorem digit_put {zs : List Nat} {i d b : Nat} (hd : zs[i / 4]? = some d) : val (zs.set (i / 4) (d + b * P8 (i % 4))) = val zs + P8 i * b := by
  have e := val_set hd (d + b * P8 (i % 4))
  rw [Nat.mul_add] at e
  have : P8 i * b = P32 (i / 4) * (b * P8 (i % 4)) := by
    rw [P32_P8, Nat.mul_comm b, ← Nat.mul_assoc, ← P8_add]; congr 2; omega
  omega

theorem rev_byte (s : ByteArray) {i j : Nat} (hj : j = s.size - 1 - i) (hi : i < s.size) (h : j < s.size) : s.data.toList.reverse[i]? = some s[j] := by
  have hl : s.data.toList.length = s.size := Array.length_toList
  rw [List.getElem?_reverse (by omega), hl]
  subst hj
  rw [List.getElem?_eq_getElem (by omega)]
  rfl

theorem P8_cases (r : Nat) (h : r < 4) : P8 r ≤ 16777216 := by
  match r, h with
  | 0, _ => decide
  | 1, _ => decide
  | 2, _ => decide
  | 3, _ => decide

/-- A byte out of the digits. -/
theorem byte_of {xs : List Nat} {i x : Nat} (hx : xs[i / 4]? = some x) (hl : Lt32 xs) : val xs / P8 i % 256 = x / P8 (i % 4) % 256 := by
  have e := val_split hx
  have hp := P32_pos (i / 4)
  obtain ⟨hlen, _⟩ := List.getElem?_eq_some_iff.1 hx
  have h1 := val_lt (hl.take (i / 4))
  rw [List.length_take, Nat.min_eq_left (by omega)] at h1
  have h2 : P8 i = P32 (i / 4) * P8 (i % 4) := by rw [P32_P8, ← P8_add]; congr 1; omega
  have h3 : val xs / P32 (i / 4) = x + 4294967296 * val (xs.drop (i / 4 + 1)) := by
    rw [e, P32_succ, Nat.mul_comm 4294967296 (P32 (i / 4)), Nat.mul_assoc, Nat.add_assoc, ← Nat.mul_add, Nat.add_comm, Nat.mul_add_div hp, Nat.div_eq_of_lt h1, Nat.add_zero]
  rw [h2, ← Nat.div_div_eq_div_mul, h3]
  generalize val (xs.drop (i / 4 + 1)) = H
  have hr : i % 4 < 4 := Nat.mod_lt _ (by omega)
  generalize i % 4 = r at hr
  match r, hr with
  | 0, _ => simp only [P8]; omega
  | 1, _ => simp only [P8]; omega
  | 2, _ => simp only [P8]; omega
  | 3, _ => simp only [P8]; omega

theorem mod_step (V i : Nat) : V % P8 (i + 1) = V % P8 i + P8 i * (V / P8 i % 256) := by
  rw [P8_succ, Nat.mul_comm 256 (P8 i), Nat.mod_mul]

end Go.Proofs.YtebgmlbbilcbbaaGreatDoor
namespace Go.Proofs.YtebgmlbbilcbbaaGreatDoor

/-- A binary digit. -/
def bitB (v i : Nat) : Bool := v / 2 ^ i % 2 == 1

/-- The number with these binary digits, the most significant one first. -/
def hornerB (l : List Bool) : Nat := l.foldl (fun a b => 2 * a + (if b then 1 else 0)) 0
theorem hornerB_snoc (l : List Bool) (b : Bool) : hornerB (l ++ [b]) = 2 * hornerB l + (if b then 1 else 0) := by simp [hornerB]

/-- The first k of n binary digits of v, the most significant one first. -/
def bitsTo (v n k : Nat) : List Bool := (List.range k).map fun j => bitB v (n - 1 - j)
theorem bitsTo_zero (v n : Nat) : bitsTo v n 0 = [] := rfl
theorem bitsTo_succ (v n k : Nat) : bitsTo v n (k + 1) = bitsTo v n k ++ [bitB v (n - 1 - k)] := by simp [bitsTo, List.range_succ]
theorem bitsTo_length (v n k : Nat) : (bitsTo v n k).length = k := by simp [bitsTo]

theorem horner_bits {v n : Nat} (hn : v < 2 ^ n) : ∀ k, k ≤ n → hornerB (bitsTo v n k) = v / 2 ^ (n - k)
  | 0, _ => by
    rw [bitsTo_zero, Nat.sub_zero, Nat.div_eq_of_lt hn]
    rfl
  | k + 1, hk => by
    rw [bitsTo_succ, hornerB_snoc, horner_bits hn k (by omega)]
    have e : n - k = (n - (k + 1)) + 1 := by omega
    rw [show n - 1 - k = n - (k + 1) by omega, e, Nat.pow_succ, ← Nat.div_div_eq_div_mul]
    unfold bitB
    generalize v / 2 ^ (n - (k + 1)) = q
    by_cases h : q % 2 = 1
    · simp [h]; omega
    · simp [h]; omega

/-- The binary digits of a number. -/
def binL (v : Nat) : List Bool := bitsTo v (bitsN v) (bitsN v)
theorem lt_bitsN (v : Nat) : v < 2 ^ bitsN v := by
  by_cases h : v = 0
  · subst h; rw [bitsN_zero]; decide
  · obtain ⟨k, hk, _, h2⟩ := bitsN_bounds h
    rw [hk]; exact h2
theorem horner_binL (v : Nat) : hornerB (binL v) = v := by
  unfold binL
  rw [horner_bits (lt_bitsN v) _ (Nat.le_refl _), Nat.sub_self, Nat.pow_zero, Nat.div_one]
theorem binL_length (v : Nat) : (binL v).length = bitsN v := bitsTo_length _ _ _

theorem bitsN_le {v k : Nat} (h : v < 2 ^ k) : bitsN v ≤ k := by
  by_cases h0 : v = 0
  · subst h0; rw [bitsN_zero]; exact Nat.zero_le _
  · obtain ⟨j, hj, h1, _⟩ := bitsN_bounds h0
    rw [hj]
    rcases Nat.lt_or_ge j k with h2 | h2
    · exact h2
    · have : 2 ^ k ≤ 2 ^ j := Nat.pow_le_pow_right (by omega) h2
      omega

/-- A byte of a string's value. -/
theorem byte_lv : ∀ (r : List UInt8) (i : Nat) (b : UInt8), r[i]? = some b → lv r / P8 i % 256 = b.toNat
  | [], i, b, h => by simp at h
  | x :: t, 0, b, h => by
    simp at h
    subst h
    have := x.toNat_lt
    rw [lv, P8_zero, Nat.div_one]
    omega
  | x :: t, i + 1, b, h => by
    have := x.toNat_lt
    rw [lv, P8_succ, ← Nat.div_div_eq_div_mul, show (x.toNat + 256 * lv t) / 256 = lv t by omega]
    exact byte_lv t i b (by simpa using h)

theorem bit_byte {v i b : Nat} (h : v / P8 (i / 8) % 256 = b) : bitB v i = (b / 2 ^ (i % 8) % 2 == 1) := by
  have e : 2 ^ i = P8 (i / 8) * 2 ^ (i % 8) := by rw [P8_two, ← Nat.pow_add]; congr 1; omega
  unfold bitB
  rw [e, ← Nat.div_div_eq_div_mul]
  generalize v / P8 (i / 8) = q at h
  have hr : i % 8 < 8 := Nat.mod_lt _ (by omega)
  generalize i % 8 = r at hr
  have key : q / 2 ^ r % 2 = b / 2 ^ r % 2 := by
    subst h
    match r, hr with
    | 0, _ => simp only [Nat.pow_zero]; omega
    | 1, _ => simp only [Nat.pow_one]; omega
    | 2, _ => rw [show (2 : Nat) ^ 2 = 4 by rfl]; omega
    | 3, _ => rw [show (2 : Nat) ^ 3 = 8 by rfl]; omega
    | 4, _ => rw [show (2 : Nat) ^ 4 = 16 by rfl]; omega
    | 5, _ => rw [show (2 : Nat) ^ 5 = 32 by rfl]; omega
    | 6, _ => rw [show (2 : Nat) ^ 6 = 64 by rfl]; omega
    | 7, _ => rw [show (2 : Nat) ^ 7 = 128 by rfl]; omega
  rw [key]

/-! ### powers -/
theorem pow_step_sq (a e m : Nat) : (a ^ e % m) * (a ^ e % m) % m = a ^ (2 * e) % m := by
  rw [← Nat.mul_mod, ← Nat.pow_add, show e + e = 2 * e by omega]
theorem pow_step_mul (a e m : Nat) : (a ^ e % m) * (a % m) % m = a ^ (e + 1) % m := by
  rw [← Nat.mul_mod, ← Nat.pow_succ]
theorem pow_base (a e m : Nat) : (a % m) ^ e % m = a ^ e % m := (Nat.pow_mod a e m).symm

end Go.Proofs.YtebgmlbbilcbbaaGreatDoor
namespace Go.Proofs.YtebgmlbbilcbbaaGreatDoor

/-! ### the inverse of an odd number -/

/-- How many bits of the inverse are right after k rounds. -/
def invBits (k : Nat) : Nat := min 32 (3 * 2 ^ k)

theorem odd_square (m : Nat) (h : m % 2 = 1) : ((2 : Int) ^ invBits 0) ∣ ((m : Int) * m - 1) := by
  have e : (2 : Int) ^ invBits 0 = 8 := by rfl
  rw [e]
  obtain ⟨k, rfl⟩ : ∃ k, m = 2 * k + 1 := ⟨m / 2, by omega⟩
  have h2 : ∃ j : Int, (k : Int) * (k + 1) = 2 * j := by
    rcases Nat.mod_two_eq_zero_or_one k with h0 | h0
    · obtain ⟨j, rfl⟩ : ∃ j, k = 2 * j := ⟨k / 2, by omega⟩
      exact ⟨(j : Int) * (2 * j + 1), by simp [Int.mul_assoc]⟩
    · obtain ⟨j, rfl⟩ : ∃ j, k = 2 * j + 1 := ⟨k / 2, by omega⟩
      refine ⟨(2 * (j : Int) + 1) * (j + 1), ?_⟩
      simp only [Int.natCast_add, Int.natCast_mul, Int.cast_ofNat_Int]
      rw [show (2 * (j : Int) + 1 + 1) = 2 * (j + 1) by omega, Int.mul_left_comm]
  obtain ⟨j, hj⟩ := h2
  refine ⟨j, ?_⟩
  have e3 : (((2 * k + 1 : Nat) : Int)) * ((2 * k + 1 : Nat) : Int) - 1 = 4 * ((k : Int) * (k + 1)) := by
    simp only [Int.natCast_add, Int.natCast_mul, Int.cast_ofNat_Int]
    rw [Int.add_mul, Int.mul_add, Int.mul_add]
    have : 2 * (k : Int) * (2 * k) = 4 * ((k : Int) * k) := by rw [Int.mul_assoc, Int.mul_left_comm (k : Int), ← Int.mul_assoc]; rfl
    rw [Int.mul_add, this, Int.mul_one, Int.mul_one]
    omega
  rw [e3, hj]
  omega

theorem inv_step {m v : Int} {k : Nat} (h : ((2 : Int) ^ invBits k) ∣ (m * v - 1)) :
    ((2 : Int) ^ invBits (k + 1)) ∣ (m * (v * ((2 - m * v % 4294967296) % 4294967296) % 4294967296) - 1) := by
  obtain ⟨c, hc⟩ := h
  have hB : ((2 : Int) ^ invBits (k + 1)) ∣ 4294967296 := by
    have : (4294967296 : Int) = 2 ^ 32 := by rfl
    rw [this]
    exact ⟨2 ^ (32 - invBits (k + 1)), by rw [← Int.pow_add]; congr 1; unfold invBits; omega⟩
  have e1 : ∃ q : Int, v * ((2 - m * v % 4294967296) % 4294967296) % 4294967296 = v * (2 - m * v) + 4294967296 * q := by
    have h1 := Int.emod_add_mul_ediv (m * v) 4294967296
    have h2 := Int.emod_add_mul_ediv (2 - m * v % 4294967296) 4294967296
    have h3 := Int.emod_add_mul_ediv (v * ((2 - m * v % 4294967296) % 4294967296)) 4294967296
    refine ⟨v * (m * v / 4294967296) - v * ((2 - m * v % 4294967296) / 4294967296) - (v * ((2 - m * v % 4294967296) % 4294967296)) / 4294967296, ?_⟩
    generalize m * v / 4294967296 = a at *
    generalize hb : (2 - m * v % 4294967296) / 4294967296 = b at *
    generalize hd : (2 - m * v % 4294967296) % 4294967296 = d at *
    generalize v * d / 4294967296 = g at *
    have h4 : d = 2 - m * v + 4294967296 * a - 4294967296 * b := by omega
    have h5 : v * d = v * (2 - m * v) + 4294967296 * (v * a) - 4294967296 * (v * b) := by
      rw [h4, Int.mul_sub, Int.mul_add, Int.mul_left_comm v 4294967296 a, Int.mul_left_comm v 4294967296 b]
    omega
  obtain ⟨q, hq⟩ := e1
  rw [hq]
  have e2 : m * (v * (2 - m * v) + 4294967296 * q) - 1 = 4294967296 * (m * q) - (m * v - 1) * (m * v - 1) := by
    have : m * (v * (2 - m * v)) = 2 * (m * v) - (m * v) * (m * v) := by
      rw [← Int.mul_assoc, Int.mul_sub, Int.mul_comm (m * v) 2]
    have h6 : (m * v - 1) * (m * v - 1) = (m * v) * (m * v) - 2 * (m * v) + 1 := by
      rw [Int.sub_mul, Int.mul_sub, Int.mul_one, Int.one_mul]; omega
    rw [Int.mul_add, this, Int.mul_left_comm m, h6]
    omega
  rw [e2, hc]
  refine Int.dvd_sub (Int.dvd_trans hB (Int.dvd_mul_right _ _)) ?_
  have e3 : (2 : Int) ^ invBits k * c * (2 ^ invBits k * c) = 2 ^ (invBits k + invBits k) * (c * c) := by
    rw [Int.pow_add, Int.mul_assoc, Int.mul_left_comm c, ← Int.mul_assoc, ← Int.mul_assoc]
  rw [e3]
  refine Int.dvd_trans ?_ (Int.dvd_mul_right _ _)
  refine ⟨2 ^ (invBits k + invBits k - invBits (k + 1)), ?_⟩
  rw [← Int.pow_add]
  congr 1
  unfold invBits
  rw [Nat.pow_succ]
  omega

theorem inv_end {m v : Nat} (h : ((2 : Int) ^ invBits 5) ∣ ((m : Int) * v - 1)) {u : Int} (hu : u = -(v : Int) % 4294967296) : ((m : Int) * u + 1) % 4294967296 = 0 := by
  have e : (2 : Int) ^ invBits 5 = 4294967296 := by rfl
  rw [e] at h
  obtain ⟨c, hc⟩ := h
  have h1 := Int.emod_add_mul_ediv (-(v : Int)) 4294967296
  subst hu
  generalize -(v : Int) / 4294967296 = q at h1
  generalize -(v : Int) % 4294967296 = u at h1
  have h2 : u = -(v : Int) - 4294967296 * q := by omega
  subst h2
  rw [Int.mul_sub, Int.mul_left_comm, Int.mul_neg]
  omega

/-! ### the steps of Montgomery's product -/

theorem mont_in {t : List Nat} {j cy d x z T V : Nat} (hz : t[j]? = some z) (h : val t + P32 j * cy = V + T * d) :
    val (t.set j ((cy + (x * d + z)) % 4294967296)) + P32 (j + 1) * ((cy + (x * d + z)) / 4294967296) = V + (T + P32 j * x) * d := by
  have e := val_set hz ((cy + (x * d + z)) % 4294967296)
  have e2 : P32 j * ((cy + (x * d + z)) % 4294967296) + P32 (j + 1) * ((cy + (x * d + z)) / 4294967296) = P32 j * (cy + (x * d + z)) := by
    rw [P32_succ, Nat.mul_comm 4294967296 (P32 j), Nat.mul_assoc, ← Nat.mul_add, Nat.mod_add_div]
  rw [Nat.mul_add (P32 j), Nat.mul_add (P32 j)] at e2
  rw [Nat.add_mul, Nat.mul_assoc (P32 j)]
  omega

/-- The two digits at the end of the sum. -/
theorem mont_sum {t : List Nat} {n tn t1 cy V : Nat} (hl : t.length = n + 2) (h0 : t[n]? = some tn) (h1 : t[n + 1]? = some t1) (h : val (t.take (n + 1)) + P32 n * cy = V) :
    val ((t.set n ((cy + tn) % 4294967296)).set (n + 1) ((cy + tn) / 4294967296)) = V := by
  have e1 := val_take_succ h0
  have e : (t.set n ((cy + tn) % 4294967296)).set (n + 1) ((cy + tn) / 4294967296) = t.take n ++ [(cy + tn) % 4294967296, (cy + tn) / 4294967296] := by
    have hd : t = t.take n ++ [tn, t1] := by
      conv => lhs; rw [← List.take_append_drop n t, drop_cons h0, drop_cons h1, List.drop_of_length_le (by omega)]
    have hn : (t.take n).length = n := by rw [List.length_take]; omega
    conv => lhs; rw [hd]
    have a1 := set_front (t.take n) [t1] tn ((cy + tn) % 4294967296)
    rw [hn] at a1
    rw [a1]
    have a2 := set_front (t.take n ++ [(cy + tn) % 4294967296]) [] t1 ((cy + tn) / 4294967296)
    rw [List.length_append, hn, List.length_singleton] at a2
    rw [a2]
    simp
  have hn : (t.take n).length = n := by rw [List.length_take]; omega
  rw [e, val_append, hn]
  simp only [val, Nat.mul_zero, Nat.add_zero]
  rw [Nat.mod_add_div, Nat.mul_add]
  omega

theorem mont_out {out S ms : List Nat} {j cy f s m F M : Nat} (ho : out.length + 1 = j) (hs : S[j]? = some s) (hm : ms[j]? = some m) (h : 4294967296 * val out + P32 j * cy = val (S.take j) + f * val (ms.take j)) (hF : F = (cy + (f * m + s)) % 4294967296) (hM : M = (cy + (f * m + s)) / 4294967296) :
    4294967296 * val (out ++ [F]) + P32 (j + 1) * M = val (S.take (j + 1)) + f * val (ms.take (j + 1)) := by
  subst hF hM
  rw [val_take_succ hs, val_take_succ hm, val_snoc]
  have e1 : P32 j = 4294967296 * P32 out.length := by rw [← ho, P32_succ]
  have e2 : 4294967296 * (P32 out.length * ((cy + (f * m + s)) % 4294967296)) + P32 (j + 1) * ((cy + (f * m + s)) / 4294967296) = P32 j * (cy + (f * m + s)) := by
    rw [← Nat.mul_assoc, ← e1, P32_succ, Nat.mul_comm 4294967296 (P32 j), Nat.mul_assoc, ← Nat.mul_add, Nat.mod_add_div]
  rw [Nat.mul_add (P32 j), Nat.mul_add (P32 j)] at e2
  rw [Nat.mul_add 4294967296, Nat.mul_add f, Nat.mul_left_comm f (P32 j) m]
  omega

theorem mont_end {out S ms : List Nat} {n cy f tn t1 : Nat} (ho : out.length + 1 = n) (hl : S.length = n + 2) (h0 : S[n]? = some tn) (h1 : S[n + 1]? = some t1) (hm : ms.length = n) (h : 4294967296 * val out + P32 n * cy = val (S.take n) + f * val (ms.take n)) :
    4294967296 * val (out ++ [(cy + tn) % 4294967296, t1 + (cy + tn) / 4294967296]) = val S + f * val ms := by
  have eS : val S = val (S.take n) + P32 n * (tn + 4294967296 * t1) := by
    have e := val_append (S.take n) (S.drop n)
    rw [List.take_append_drop, drop_cons h0, drop_cons h1, List.drop_of_length_le (by omega), List.length_take, Nat.min_eq_left (by omega)] at e
    simpa [val] using e
  rw [List.take_of_length_le (l := ms) (by omega)] at h
  rw [val_append, eS]
  simp only [val, Nat.mul_zero, Nat.add_zero]
  have e1 : P32 n = 4294967296 * P32 out.length := by rw [← ho, P32_succ]
  have e2 : 4294967296 * (P32 out.length * ((cy + tn) % 4294967296 + 4294967296 * (t1 + (cy + tn) / 4294967296))) = P32 n * (cy + tn) + P32 n * (4294967296 * t1) := by
    rw [← Nat.mul_assoc, ← e1, ← Nat.mul_add]
    congr 1
    omega
  rw [Nat.mul_add 4294967296, e2, Nat.mul_add (P32 n) cy, Nat.mul_add (P32 n) tn]
  omega

/-- The first digit of the second half: the factor makes it 0. -/
theorem mont_start {S ms : List Nat} {s0 m0 inv f k0 : Nat} (hf : f = s0 * inv % 4294967296) (hi : ((m0 : Int) * inv + 1) % 4294967296 = 0) (hk : k0 = (f * m0 + s0) / 4294967296) (hs : S[0]? = some s0) (hm : ms[0]? = some m0) :
    4294967296 * val [] + P32 1 * k0 = val (S.take 1) + f * val (ms.take 1) := by
  rw [val_take_succ hs, val_take_succ hm, List.take_zero, List.take_zero, P32_zero, Nat.one_mul, Nat.one_mul]
  simp only [val, Nat.mul_zero, Nat.zero_add]
  have e1 : (f * m0 + s0) % 4294967296 = 0 := by
    obtain ⟨q, hq⟩ : ∃ q, s0 * inv = f + 4294967296 * q := ⟨s0 * inv / 4294967296, by rw [hf]; omega⟩
    obtain ⟨r, hr⟩ : ∃ r, m0 * inv + 1 = 4294967296 * r := by
      refine ⟨(m0 * inv + 1) / 4294967296, ?_⟩
      have : ((m0 * inv + 1 : Nat) : Int) % 4294967296 = 0 := by simpa using hi
      omega
    have e2 : f * m0 + s0 + 4294967296 * (q * m0) = 4294967296 * (s0 * r) := by
      have e3 : (f + 4294967296 * q) * m0 + s0 = s0 * (m0 * inv + 1) := by
        rw [← hq, Nat.mul_add, Nat.mul_one, Nat.mul_assoc, Nat.mul_comm inv m0]
      rw [hr, Nat.add_mul, Nat.mul_assoc, Nat.mul_left_comm s0] at e3
      omega
    omega
  have e4 : P32 1 = 4294967296 := rfl
  rw [e4, hk]
  omega

theorem mont_set {out S : List Nat} {j x v : Nat} (ho : out.length + 1 = j) (hx : S[j - 1]? = some x) : (out ++ S.drop (j - 1)).set (j - 1) v = (out ++ [v]) ++ S.drop j := by
  rw [drop_cons hx]
  have := set_front out (S.drop (j - 1 + 1)) x v
  rw [show out.length = j - 1 by omega, show j - 1 + 1 = j by omega] at this
  rw [show j - 1 + 1 = j by omega, this]

theorem mont_get {out S : List Nat} {j i x : Nat} (ho : out.length + 1 = j) (hi : j - 1 ≤ i) (hx : S[i]? = some x) : (out ++ S.drop (j - 1))[i]? = some x := by
  rw [List.getElem?_append_right (by omega), List.getElem?_drop, show j - 1 + (i - out.length) = i by omega]
  exact hx

theorem mont_last {out S : List Nat} {n a b x tn t1 : Nat} (ho : out.length + 1 = n) (hl : S.length = n + 2) (hx : S[n - 1]? = some x) (h0 : S[n]? = some tn) (h1 : S[n + 1]? = some t1) :
    ((out ++ S.drop (n - 1)).set (n - 1) a).set n b = out ++ [a, b] ++ [t1] := by
  rw [mont_set ho hx, drop_cons h0, drop_cons h1, List.drop_of_length_le (by omega)]
  have := set_front (out ++ [a]) [t1] tn b
  rw [List.length_append, List.length_singleton, ho] at this
  rw [this]
  simp

/-- A round of the product. -/
theorem mont_round {T T' X d f M Q Y : Nat} {i : Nat} (h : T * P32 i = X * Y + Q * M) (h2 : 4294967296 * T' = T + X * d + f * M) (hQ : Q < P32 i) (hf : f < 4294967296) :
    T' * P32 (i + 1) = X * (Y + P32 i * d) + (Q + P32 i * f) * M ∧ Q + P32 i * f < P32 (i + 1) := by
  constructor
  · have e : T' * P32 (i + 1) = (T + X * d + f * M) * P32 i := by rw [← h2, P32_succ, ← Nat.mul_assoc, Nat.mul_comm T']
    have e2 : X * d * P32 i = X * (P32 i * d) := by rw [Nat.mul_assoc, Nat.mul_comm d]
    have e3 : f * M * P32 i = P32 i * f * M := by rw [Nat.mul_comm, Nat.mul_assoc]
    rw [e, Nat.add_mul, Nat.add_mul, h, Nat.mul_add, Nat.add_mul, e2, e3]
    omega
  · have : P32 i * f + P32 i ≤ P32 i * 4294967296 := by rw [← Nat.mul_succ]; exact Nat.mul_le_mul_left _ hf
    rw [P32_succ, Nat.mul_comm 4294967296]
    omega

theorem mont_bound {T X M Q Y P : Nat} (h : T * P = X * Y + Q * M) (hQ : Q < P) (hY : Y < P) (hX : X < M) : T < 2 * M := by
  rcases Nat.lt_or_ge T (2 * M) with h1 | h1
  · exact h1
  · exfalso
    have h2 : 2 * M * P ≤ T * P := Nat.mul_le_mul_right _ h1
    have h3 : X * Y ≤ M * Y := Nat.mul_le_mul_right _ (by omega)
    have h4 : M * Y + M ≤ M * P := by rw [← Nat.mul_succ]; exact Nat.mul_le_mul_left _ hY
    have h5 : Q * M + M ≤ P * M := by rw [← Nat.succ_mul]; exact Nat.mul_le_mul_right _ hQ
    rw [Nat.mul_assoc, Nat.mul_comm M P] at h2
    rw [Nat.mul_comm M P] at h4
    omega

/-- The result of Montgomery's product. -/
theorem mont_res {T X M Q Y P R : Nat} (h : T * P = X * Y + Q * M) (hR : R = T ∨ R + M = T) : R * P % M = X * Y % M := by
  rcases hR with rfl | hR
  · rw [h, Nat.add_mul_mod_self_right]
  · have e : (R + M) * P = X * Y + Q * M := by rw [hR]; exact h
    rw [Nat.add_mul] at e
    have e2 : (R * P + M * P) % M = (X * Y + Q * M) % M := by rw [e]
    rw [Nat.add_mul_mod_self_left, Nat.add_mul_mod_self_right] at e2
    exact e2

/-! ### cancelling a factor that has no common divisor with the modulus -/
theorem mod_cancel {a b c m : Nat} (hc : Nat.Coprime c m) (h : a * c % m = b * c % m) : a % m = b % m := by
  have key : ∀ x y : Nat, y ≤ x → x * c % m = y * c % m → x % m = y % m := by
    intro x y hle h1
    have h2 : m ∣ (x - y) * c := by
      rw [Nat.sub_mul]
      exact Nat.dvd_of_mod_eq_zero (Nat.sub_mod_eq_zero_of_mod_eq h1)
    have h3 : m ∣ x - y := (Nat.Coprime.symm hc).dvd_of_dvd_mul_right h2
    obtain ⟨k, hk⟩ := h3
    rw [show x = y + m * k by omega, Nat.add_mul_mod_self_left]
  rcases Nat.le_total b a with h1 | h1
  · exact key a b h1 h
  · exact (key b a h1 h.symm).symm

end Go.Proofs.YtebgmlbbilcbbaaGreatDoor
namespace Go.Proofs.YtebgmlbbilcbbaaGreatDoor.R

/-- The value of digits to the base 2^24, the least significant one first. -/
def val : List Nat → Nat
  | [] => 0
  | x :: t => x + 16777216 * val t

/-- 2^24 to the power of n. -/
def P24 (n : Nat) : Nat := 16777216 ^ n

theorem P24_zero : P24 0 = 1 := rfl
theorem P24_succ (n : Nat) : P24 (n + 1) = 16777216 * P24 n := by unfold P24; rw [Nat.pow_succ, Nat.mul_comm]
theorem P24_pos (n : Nat) : 0 < P24 n := Nat.pow_pos (by omega)
theorem P24_add (m n : Nat) : P24 (m + n) = P24 m * P24 n := Nat.pow_add _ _ _

theorem val_append (xs ys : List Nat) : val (xs ++ ys) = val xs + P24 xs.length * val ys := by
  induction xs with
  | nil => simp [val, P24]
  | cons x t ih =>
    rw [List.cons_append, val, ih, val, List.length_cons, P24_succ, Nat.mul_add, Nat.mul_assoc]; omega

theorem val_snoc (xs : List Nat) (d : Nat) : val (xs ++ [d]) = val xs + P24 xs.length * d := by rw [val_append]; simp [val]

/-- All digits are less than 2^24. -/
def Lt24 (xs : List Nat) : Prop := ∀ j d : Nat, xs[j]? = some d → d < 16777216

theorem Lt24.nil : Lt24 [] := fun j d h => by simp at h
theorem Lt24.tail {x : Nat} {xs : List Nat} (h : Lt24 (x :: xs)) : Lt24 xs := fun j d hd => h (j + 1) d (by simpa using hd)
theorem Lt24.head {x : Nat} {xs : List Nat} (h : Lt24 (x :: xs)) : x < 16777216 := h 0 x (by simp)
theorem Lt24.append {xs ys : List Nat} (h : Lt24 xs) (k : Lt24 ys) : Lt24 (xs ++ ys) := fun j d hd => by
  rw [List.getElem?_append] at hd
  split at hd
  · exact h _ _ hd
  · exact k _ _ hd
theorem Lt24.one {d : Nat} (h : d < 16777216) : Lt24 [d] := fun j e he => by
  match j with
  | 0 => simp at he; omega
  | j + 1 => simp at he
theorem Lt24.snoc {xs : List Nat} {d : Nat} (h : Lt24 xs) (hd : d < 16777216) : Lt24 (xs ++ [d]) := h.append (Lt24.one hd)
theorem Lt24.take {xs : List Nat} (h : Lt24 xs) (m : Nat) : Lt24 (xs.take m) := fun j d hd => by
  rw [List.getElem?_take] at hd
  split at hd
  · exact h _ _ hd
  · cases hd
theorem Lt24.drop {xs : List Nat} (h : Lt24 xs) (m : Nat) : Lt24 (xs.drop m) := fun j d hd => by
  rw [List.getElem?_drop] at hd
  exact h _ _ hd
theorem Lt24.zeros (n : Nat) : Lt24 (List.replicate n 0) := fun j d hd => by
  rw [List.getElem?_replicate] at hd
  split at hd
  · simp at hd; omega
  · cases hd

theorem val_lt {xs : List Nat} (h : Lt24 xs) : val xs < P24 xs.length := by
  induction xs with
  | nil => simp [val, P24]
  | cons x t ih =>
    have h1 := ih h.tail
    have h2 := h.head
    rw [val, List.length_cons, P24_succ]
    omega

theorem val_zeros (n : Nat) : val (List.replicate n 0) = 0 := by
  induction n with
  | zero => rfl
  | succ n ih => rw [List.replicate_succ, val, ih]

theorem take_snoc {xs : List Nat} {k d : Nat} (h : xs[k]? = some d) : xs.take (k + 1) = xs.take k ++ [d] := by
  obtain ⟨hl, rfl⟩ := List.getElem?_eq_some_iff.1 h
  rw [List.take_succ_eq_append_getElem hl]

theorem val_take_succ {xs : List Nat} {k d : Nat} (h : xs[k]? = some d) : val (xs.take (k + 1)) = val (xs.take k) + P24 k * d := by
  obtain ⟨hl, _⟩ := List.getElem?_eq_some_iff.1 h
  rw [take_snoc h, val_snoc, List.length_take, Nat.min_eq_left (by omega)]

theorem val_take_all {xs : List Nat} {k : Nat} (h : xs.length ≤ k) : val (xs.take k) = val xs := by rw [List.take_of_length_le h]

/-- What trim leaves has the same value. -/
theorem val_trim {xs : List Nat} {m : Nat} (h : ∀ j d : Nat, m ≤ j → xs[j]? = some d → d = 0) : val (xs.take m) = val xs := by
  have e : xs.drop m = List.replicate (xs.drop m).length 0 := by
    apply List.eq_replicate_iff.2
    refine ⟨rfl, fun b hb => ?_⟩
    obtain ⟨i, hi, rfl⟩ := List.getElem_of_mem hb
    have := List.getElem?_eq_getElem hi
    rw [List.getElem?_drop] at this
    exact h _ _ (by omega) this
  have h2 := val_append (xs.take m) (xs.drop m)
  rw [List.take_append_drop, e, val_zeros] at h2
  omega

/-- The digits have no zeros at the end. -/
def Trim (xs : List Nat) : Prop := 0 < xs.length → ∃ d, xs[xs.length - 1]? = some d ∧ d ≠ 0

theorem set_front (f t : List Nat) (a v : Nat) : (f ++ a :: t).set f.length v = f ++ [v] ++ t := by
  rw [List.set_append_right _ _ (Nat.le_refl _)]
  simp

theorem Trim.ge {xs : List Nat} (h : Trim xs) (h0 : 0 < xs.length) : P24 (xs.length - 1) ≤ val xs := by
  obtain ⟨d, hd, hne⟩ := h h0
  have e := val_take_succ hd
  rw [val_take_all (by omega)] at e
  have : P24 (xs.length - 1) * 1 ≤ P24 (xs.length - 1) * d := Nat.mul_le_mul_left _ (by omega)
  omega

/-- Digits without zeros at the end: the number of them follows from the value. -/
theorem Trim.len_le {xs : List Nat} (h : Trim xs) {n : Nat} (hv : val xs < P24 n) : xs.length ≤ n := by
  rcases Nat.eq_zero_or_pos xs.length with h0 | h0
  · omega
  · have h1 := h.ge h0
    rcases Nat.lt_or_ge n xs.length with hlt | hge
    · exfalso
      have : P24 n ≤ P24 (xs.length - 1) := Nat.pow_le_pow_right (by omega) (by omega)
      omega
    · exact hge

/-- Two such lists of the same value are one. -/
theorem val_inj {xs ys : List Nat} (hl : xs.length = ys.length) (hx : Lt24 xs) (hy : Lt24 ys) (hv : val xs = val ys) : xs = ys := by
  induction xs generalizing ys with
  | nil => cases ys with
    | nil => rfl
    | cons y t => simp at hl
  | cons x t ih => cases ys with
    | nil => simp at hl
    | cons y u =>
      have h1 := hx.head
      have h2 := hy.head
      rw [val, val] at hv
      have e : x = y := by omega
      subst e
      rw [ih (by simpa using hl) hx.tail hy.tail (by omega)]

theorem get_front {f : List Nat} {i r : Nat} (hf : f.length = i) (hr : 0 < r) : (f ++ List.replicate r 0)[i]? = some 0 := by
  rw [List.getElem?_append_right (by omega), List.getElem?_replicate, if_pos (by omega)]

theorem set_zero {f : List Nat} {i r s : Nat} (hf : f.length = i) (hr : r = s + 1) (v : Nat) : (f ++ List.replicate r 0).set i v = (f ++ [v]) ++ List.replicate s 0 := by
  subst hf hr
  rw [List.replicate_succ, set_front]

theorem carry_step {f : List Nat} {i : Nat} (hf : f.length = i) (s : Nat) : val (f ++ [s % 16777216]) + P24 (i + 1) * (s / 16777216) = val f + P24 i * s := by
  rw [val_snoc, hf, P24_succ, Nat.mul_comm 16777216 (P24 i), Nat.mul_assoc, Nat.add_assoc, ← Nat.mul_add, Nat.mod_add_div]


/-- The sign of a comparison. -/
theorem drop_cons {xs : List Nat} {k x : Nat} (h : xs[k]? = some x) : xs.drop k = x :: xs.drop (k + 1) := by
  obtain ⟨hl, rfl⟩ := List.getElem?_eq_some_iff.1 h
  exact List.drop_eq_getElem_cons hl

theorem val_split {xs : List Nat} {k x : Nat} (h : xs[k]? = some x) : val xs = val (xs.take k) + P24 k * x + P24 (k + 1) * val (xs.drop (k + 1)) := by
  obtain ⟨hl, _⟩ := List.getElem?_eq_some_iff.1 h
  have e := val_append (xs.take k) (xs.drop k)
  rw [List.take_append_drop, drop_cons h, val, List.length_take, Nat.min_eq_left (by omega), Nat.mul_add] at e
  rw [e, P24_succ, Nat.mul_comm 16777216 (P24 k), Nat.mul_assoc]
  omega

theorem val_lt_at {xs ys : List Nat} {k x y : Nat} (hx : xs[k]? = some x) (hy : ys[k]? = some y) (hd : xs.drop (k + 1) = ys.drop (k + 1)) (l1 : Lt24 xs) (hxy : x < y) : val xs < val ys := by
  have e1 := val_split hx
  have e2 := val_split hy
  rw [hd] at e1
  have h1 := val_lt (l1.take k)
  obtain ⟨hl, _⟩ := List.getElem?_eq_some_iff.1 hx
  rw [List.length_take, Nat.min_eq_left (by omega)] at h1
  have h2 : P24 k * (x + 1) ≤ P24 k * y := Nat.mul_le_mul_left _ hxy
  rw [Nat.mul_add, Nat.mul_one] at h2
  omega

theorem Trim.lt_of_len {xs ys : List Nat} (hy : Trim ys) (l1 : Lt24 xs) (h : xs.length < ys.length) : val xs < val ys := by
  have h1 := val_lt l1
  have h2 := hy.ge (by omega)
  have : P24 xs.length ≤ P24 (ys.length - 1) := Nat.pow_le_pow_right (by omega) (by omega)
  omega

theorem borrow_step {f : List Nat} {i a b x y cy cy' v : Nat} (hf : f.length = i) (h : val f + b = a + P24 i * cy) (hv : v + cy + y = x + 16777216 * cy') :
    val (f ++ [v]) + (b + P24 i * y) = a + P24 i * x + P24 (i + 1) * cy' := by
  have e : P24 i * (v + cy + y) = P24 i * (x + 16777216 * cy') := by rw [hv]
  rw [Nat.mul_add, Nat.mul_add, Nat.mul_add, ← Nat.mul_assoc, Nat.mul_comm (P24 i) 16777216, ← P24_succ] at e
  rw [val_snoc, hf]
  omega

theorem val_zero {xs : List Nat} (ht : Trim xs) (h : val xs = 0) : xs = [] := by
  cases xs with
  | nil => rfl
  | cons x t =>
    have := ht.ge (by simp)
    have := P24_pos ((x :: t).length - 1)
    omega

theorem set_drop {xs : List Nat} {k v : Nat} (h : k < xs.length) : (xs.set k v).drop k = v :: xs.drop (k + 1) := by
  rw [List.drop_eq_getElem_cons (by simpa using h), List.getElem_set_self, List.drop_set_of_lt (by omega)]

theorem Lt24.set {xs : List Nat} (h : Lt24 xs) {k v : Nat} (hv : v < 16777216) : Lt24 (xs.set k v) := fun j d hd => by
  rw [List.getElem?_set] at hd
  split at hd
  · split at hd
    · simp at hd; omega
    · cases hd
  · exact h j d hd

theorem val_set {xs : List Nat} {k o : Nat} (h : xs[k]? = some o) (v : Nat) : val (xs.set k v) + P24 k * o = val xs + P24 k * v := by
  obtain ⟨hl, _⟩ := List.getElem?_eq_some_iff.1 h
  have e1 := val_split h
  have e2 := val_split (xs := xs.set k v) (k := k) (x := v) (by rw [List.getElem?_set_self hl])
  rw [List.take_set_of_le (Nat.le_refl _), List.drop_set_of_lt (by omega)] at e2
  omega

/-- A step of a division by one digit. -/
theorem digit_step {X Q y r x : Nat} (h : X = Q * y + r) :
    x + 16777216 * X = ((r * 16777216 + x) / y + 16777216 * Q) * y + (r * 16777216 + x) % y := by
  have e := Nat.div_add_mod (r * 16777216 + x) y
  rw [Nat.mul_comm] at e
  rw [Nat.add_mul, h, Nat.mul_add, ← Nat.mul_assoc]
  omega

theorem mul_step {qs : List Nat} {i j cy x y z V T : Nat} (hz : qs[i + j]? = some z) (h : val qs + P24 (i + j) * cy = V + P24 i * x * T) :
    val (qs.set (i + j) ((cy + (x * y + z)) % 16777216)) + P24 (i + (j + 1)) * ((cy + (x * y + z)) / 16777216) = V + P24 i * x * (T + P24 j * y) := by
  have e := val_set hz ((cy + (x * y + z)) % 16777216)
  have e2 : P24 (i + j) * ((cy + (x * y + z)) % 16777216) + P24 (i + (j + 1)) * ((cy + (x * y + z)) / 16777216) = P24 (i + j) * (cy + (x * y + z)) := by
    rw [← Nat.add_assoc i j 1, P24_succ, Nat.mul_comm 16777216 (P24 (i + j)), Nat.mul_assoc, ← Nat.mul_add, Nat.mod_add_div]
  rw [Nat.mul_add (P24 (i + j)), Nat.mul_add (P24 (i + j))] at e2
  have e3 : P24 i * x * (P24 j * y) = P24 (i + j) * (x * y) := by
    rw [P24_add, Nat.mul_assoc, Nat.mul_assoc, Nat.mul_left_comm x]
  rw [Nat.mul_add, e3]
  omega

end Go.Proofs.YtebgmlbbilcbbaaGreatDoor.R
namespace Go.Proofs.YtebgmlbbilcbbaaGreatDoor
open Go.Lib

/-- The last k decimal digits of r. -/
def padD : Nat → Nat → List UInt8
  | 0, _ => []
  | k + 1, r => padD k (r / 10) ++ [UInt8.ofNat (48 + r % 10)]

theorem dec_ten {u : Nat} (h : ¬ u < 10) : decDigits u = decDigits (u / 10) ++ [UInt8.ofNat (48 + u % 10)] := by
  conv => lhs; rw [decDigits]
  rw [dif_neg h]

theorem dec_split : ∀ (k q r : Nat), 0 < q → r < 10 ^ k → decDigits (q * 10 ^ k + r) = decDigits q ++ padD k r
  | 0, q, r, _, hr => by
    have : r = 0 := by simpa using hr
    subst this
    simp [padD]
  | k + 1, q, r, hq, hr => by
    rw [Nat.pow_succ] at hr
    have hp : 0 < 10 ^ k := Nat.pow_pos (by omega)
    have hge : 10 ≤ q * 10 ^ (k + 1) := by
      rw [Nat.pow_succ, ← Nat.mul_assoc]
      have := Nat.mul_pos hq hp
      omega
    have e : q * 10 ^ (k + 1) = (q * 10 ^ k) * 10 := by rw [Nat.pow_succ, Nat.mul_assoc]
    rw [dec_ten (by omega), e, show (q * 10 ^ k * 10 + r) / 10 = q * 10 ^ k + r / 10 by omega, show (q * 10 ^ k * 10 + r) % 10 = r % 10 by omega]
    rw [dec_split k q (r / 10) hq (by omega), List.append_assoc]
    rfl

theorem dec_len : ∀ (k r : Nat), r < 10 ^ (k + 1) → (decDigits r).length ≤ k + 1 ∧ 0 < (decDigits r).length
  | 0, r, h => by rw [decDigits_one (by simpa using h)]; simp
  | k + 1, r, h => by
    by_cases h1 : r < 10
    · rw [decDigits_one h1]; simp
    · rw [dec_ten h1]
      rw [Nat.pow_succ] at h
      have := dec_len k (r / 10) (by omega)
      simp
      omega

theorem pad_small : ∀ (k r : Nat), r < 10 ^ (k + 1) → padD (k + 1) r = List.replicate (k + 1 - (decDigits r).length) 48 ++ decDigits r
  | 0, r, h => by
    have h1 : r < 10 := by simpa using h
    rw [decDigits_one h1]
    simp [padD, Nat.mod_eq_of_lt h1]
  | k + 1, r, h => by
    have h2 : r / 10 < 10 ^ (k + 1) := by rw [Nat.pow_succ] at h; omega
    rw [padD, pad_small k (r / 10) h2]
    by_cases h1 : r < 10
    · rw [decDigits_one h1, show r / 10 = 0 by omega, decDigits_one (by omega), Nat.mod_eq_of_lt h1]
      rw [show k + 1 + 1 - [UInt8.ofNat (48 + r)].length = (k + 1 - [UInt8.ofNat (48 + 0)].length) + 1 by simp, List.replicate_succ']
      rfl
    · rw [dec_ten h1, List.append_assoc]
      congr 2
      rw [List.length_append]
      simp

/-- Groups of nine digits: the last of them first. -/
theorem dec_group {X : Nat} (h : 1000000000 ≤ X) : decDigits X = decDigits (X / 1000000000) ++ (List.replicate (9 - (decDigits (X % 1000000000)).length) 48 ++ decDigits (X % 1000000000)) := by
  have hr : X % 1000000000 < 10 ^ 9 := Nat.mod_lt _ (by omega)
  have e : X = X / 1000000000 * 10 ^ 9 + X % 1000000000 := by rw [show (10 : Nat) ^ 9 = 1000000000 by rfl, Nat.mul_comm]; exact (Nat.div_add_mod X 1000000000).symm
  conv => lhs; rw [e]
  rw [dec_split 9 _ _ (by omega) hr, pad_small 8 _ hr]

end Go.Proofs.YtebgmlbbilcbbaaGreatDoor
namespace Go.Proofs.YtebgmlbbilcbbaaGreatDoor
open Go.Lib

/-- Whether a byte is a decimal digit. -/
def isD (b : UInt8) : Bool := decide (48 ≤ b.toNat) && decide (b.toNat ≤ 57)
/-- The number that digits spell. -/
def dval (l : List UInt8) : Nat := l.foldl (fun a b => a * 10 + (b.toNat - 48)) 0
/-- Whether a row of bytes is the text of a number. -/
def goodD (l : List UInt8) : Bool := !l.isEmpty && !(decide (1 < l.length) && (l.head? == some 48)) && l.all isD

theorem isD_iff {b : UInt8} : isD b = true ↔ 48 ≤ b.toNat ∧ b.toNat ≤ 57 := by simp [isD]
theorem dval_nil : dval [] = 0 := rfl
theorem dval_snoc (l : List UInt8) (b : UInt8) : dval (l ++ [b]) = dval l * 10 + (b.toNat - 48) := by simp [dval]
theorem fold_dval : ∀ (b : List UInt8) (n : Nat), b.foldl (fun a b => a * 10 + (b.toNat - 48)) n = n * 10 ^ b.length + dval b
  | [], n => by simp [dval]
  | x :: b, n => by
    unfold dval
    rw [List.foldl_cons, List.foldl_cons, fold_dval b, fold_dval b, List.length_cons, Nat.pow_succ, Nat.add_mul, Nat.zero_mul, Nat.zero_add, Nat.mul_assoc, Nat.mul_comm 10, Nat.add_assoc]
theorem dval_append (a b : List UInt8) : dval (a ++ b) = dval a * 10 ^ b.length + dval b := by
  conv => lhs; unfold dval
  rw [List.foldl_append, fold_dval]
  rfl
theorem dval_lt : ∀ (l : List UInt8), l.all isD = true → dval l < 10 ^ l.length := by
  intro l
  induction l with
  | nil => intro _; simp [dval]
  | cons x l ih =>
    intro h
    rw [List.all_cons, Bool.and_eq_true] at h
    have h1 := isD_iff.1 h.1
    have h2 := ih h.2
    have e : dval (x :: l) = (x.toNat - 48) * 10 ^ l.length + dval l := by
      rw [show x :: l = [x] ++ l from rfl, dval_append]; simp [dval]
    rw [e, List.length_cons, Nat.pow_succ]
    have h3 : (x.toNat - 48) * 10 ^ l.length ≤ 9 * 10 ^ l.length := Nat.mul_le_mul_right _ (by omega)
    omega
theorem ten_le_P8 (k : Nat) : 10 ^ k ≤ P8 k := by
  induction k with
  | zero => exact Nat.le_refl _
  | succ k ih => rw [Nat.pow_succ, P8_succ]; omega
theorem dval_lt8 (l : List UInt8) (h : l.all isD = true) : dval l < P8 l.length := Nat.lt_of_lt_of_le (dval_lt l h) (ten_le_P8 _)

theorem decFrom_eq : ∀ (l : List UInt8) (acc : Nat), l.all isD = true → decFrom acc l = some (acc * 10 ^ l.length + dval l) := by
  intro l
  induction l with
  | nil => intro acc _; simp [decFrom, dval]
  | cons x l ih =>
    intro acc h
    rw [List.all_cons, Bool.and_eq_true] at h
    have h1 := isD_iff.1 h.1
    unfold decFrom digitVal
    rw [if_pos h1]
    simp only []
    rw [ih _ h.2, ← fold_dval, ← fold_dval (x :: l)]
    rfl
theorem atoi_eq (l : List UInt8) (hne : l ≠ []) (h : l.all isD = true) : atoi l = some (dval l : Int) := by
  cases l with
  | nil => exact absurd rfl hne
  | cons x l =>
    have h0 := h
    rw [List.all_cons, Bool.and_eq_true] at h
    have h1 := isD_iff.1 h.1
    have n1 : (x == 45) = false := by rw [beq_eq_false_iff_ne]; rintro rfl; exact absurd h1.1 (by decide)
    have n2 : (x == 43) = false := by rw [beq_eq_false_iff_ne]; rintro rfl; exact absurd h1.1 (by decide)
    unfold atoi
    simp only [n1, n2, Bool.false_eq_true, if_false]
    unfold decNat
    rw [if_neg (by simp), decFrom_eq _ _ h0]
    simp

theorem dig_byte {r : Nat} (h : r < 10) : (UInt8.ofNat (48 + r)).toNat = 48 + r := by
  rw [UInt8.toNat_ofNat']; omega
theorem dec_all (n : Nat) : (decDigits n).all isD = true := by
  induction n using Nat.strongRecOn with
  | _ n ih =>
    by_cases h : n < 10
    · rw [decDigits_one h]
      simp only [List.all_cons, List.all_nil, Bool.and_true]
      rw [isD_iff, dig_byte h]
      omega
    · rw [dec_ten h, List.all_append, ih _ (by omega)]
      simp only [List.all_cons, List.all_nil, Bool.and_true, Bool.true_and]
      rw [isD_iff, dig_byte (Nat.mod_lt _ (by omega))]
      omega
theorem dec_val (n : Nat) : dval (decDigits n) = n := by
  induction n using Nat.strongRecOn with
  | _ n ih =>
    by_cases h : n < 10
    · rw [decDigits_one h, show [UInt8.ofNat (48 + n)] = [] ++ [UInt8.ofNat (48 + n)] from rfl, dval_snoc, dig_byte h, dval_nil]; omega
    · rw [dec_ten h, dval_snoc, ih _ (by omega), dig_byte (Nat.mod_lt _ (by omega))]; omega
theorem dec_ne (n : Nat) : decDigits n ≠ [] := by
  by_cases h : n < 10
  · rw [decDigits_one h]; simp
  · rw [dec_ten h]; simp
theorem dec_head (n : Nat) (h0 : 0 < n) : (decDigits n).head? ≠ some 48 := by
  induction n using Nat.strongRecOn with
  | _ n ih =>
    by_cases h : n < 10
    · rw [decDigits_one h]
      intro e
      have e2 := congrArg UInt8.toNat (Option.some.inj e)
      rw [dig_byte h] at e2
      have : (48 : UInt8).toNat = 48 := rfl
      omega
    · obtain ⟨x, t, e⟩ := List.exists_cons_of_ne_nil (dec_ne (n / 10))
      have h2 := ih (n / 10) (by omega) (by omega)
      rw [dec_ten h]
      rw [e] at h2 ⊢
      exact h2
theorem dec_good (n : Nat) : goodD (decDigits n) = true := by
  unfold goodD
  rw [dec_all]
  have h1 : (decDigits n).isEmpty = false := by rw [List.isEmpty_eq_false_iff]; exact dec_ne n
  rw [h1]
  by_cases h : n < 10
  · rw [decDigits_one h]; rfl
  · have h2 : ((decDigits n).head? == some 48) = false := by rw [beq_eq_false_iff_ne]; exact dec_head n (by omega)
    rw [h2]; simp

/-- The value of a row of digits and a group of digits behind it. -/
theorem group_val {a g : List UInt8} (h : a = [] ∨ g.length = 9) : dval (a ++ g) = dval a * 1000000000 + dval g := by
  rw [dval_append]
  rcases h with rfl | h
  · simp [dval]
  · rw [h]

/-- What Parse returns. -/
theorem all_take {l : List UInt8} (h : l.all isD = true) (k : Nat) : (l.take k).all isD = true := by
  rw [List.all_eq_true] at h ⊢
  exact fun x hx => h x (List.mem_of_mem_take hx)
theorem all_drop {l : List UInt8} (h : l.all isD = true) (k : Nat) : (l.drop k).all isD = true := by
  rw [List.all_eq_true] at h ⊢
  exact fun x hx => h x (List.mem_of_mem_drop hx)

end Go.Proofs.YtebgmlbbilcbbaaGreatDoor
