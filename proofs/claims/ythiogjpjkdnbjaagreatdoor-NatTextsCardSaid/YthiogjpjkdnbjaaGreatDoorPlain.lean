/-
  Plain facts on digits to the base 2^32 and on lists. No program in sight.
-/
namespace Go.Proofs.YthiogjpjkdnbjaaGreatDoor

/-- The value of digits to the base 2^32, the least significant one first. -/
def val : List Nat → Nat
  | [] => 0
  | x :: t => x + 4294967296 * val t

/-- 2^32 to the power of n. -/
def P32 (n : Nat) : Nat := 4294967296 ^ n

theorem P32_zero : P32 0 = 1 := rfl
theorem P32_succ (n : Nat) : P32 (n + 1) = 4294967296 * P32 n := by unfold P32; rw [Nat.pow_succ, Nat.mul_comm]
theorem P32_pos (n : Nat) : 0 < P32 n := Nat.pow_pos (by omega)
theorem P32_add (m n : Nat) : P32 (m + n) = P32 m * P32 n := Nat.pow_add _ _ _

theorem val_append (xs ys : List Nat) : val (xs ++ ys) = val xs + P32 xs.length * val ys := by
  induction xs with
  | nil => simp [val, P32]
  | cons x t ih =>
    rw [List.cons_append, val, ih, val, List.length_cons, P32_succ, Nat.mul_add, Nat.mul_assoc]; omega

theorem val_snoc (xs : List Nat) (d : Nat) : val (xs ++ [d]) = val xs + P32 xs.length * d := by rw [val_append]; simp [val]

/-- All digits are less than 2^32. -/
def Lt32 (xs : List Nat) : Prop := ∀ j d : Nat, xs[j]? = some d → d < 4294967296

theorem Lt32.nil : Lt32 [] := fun j d h => by simp at h
theorem Lt32.tail {x : Nat} {xs : List Nat} (h : Lt32 (x :: xs)) : Lt32 xs := fun j d hd => h (j + 1) d (by simpa using hd)
theorem Lt32.head {x : Nat} {xs : List Nat} (h : Lt32 (x :: xs)) : x < 4294967296 := h 0 x (by simp)
theorem Lt32.append {xs ys : List Nat} (h : Lt32 xs) (k : Lt32 ys) : Lt32 (xs ++ ys) := fun j d hd => by
  rw [List.getElem?_append] at hd
  split at hd
  · exact h _ _ hd
  · exact k _ _ hd
theorem Lt32.one {d : Nat} (h : d < 4294967296) : Lt32 [d] := fun j e he => by
  match j with
  | 0 => simp at he; omega
  | j + 1 => simp at he
theorem Lt32.snoc {xs : List Nat} {d : Nat} (h : Lt32 xs) (hd : d < 4294967296) : Lt32 (xs ++ [d]) := h.append (Lt32.one hd)
theorem Lt32.take {xs : List Nat} (h : Lt32 xs) (m : Nat) : Lt32 (xs.take m) := fun j d hd => by
  rw [List.getElem?_take] at hd
  split at hd
  · exact h _ _ hd
  · cases hd
theorem Lt32.drop {xs : List Nat} (h : Lt32 xs) (m : Nat) : Lt32 (xs.drop m) := fun j d hd => by
  rw [List.getElem?_drop] at hd
  exact h _ _ hd
theorem Lt32.zeros (n : Nat) : Lt32 (List.replicate n 0) := fun j d hd => by
  rw [List.getElem?_replicate] at hd
  split at hd
  · simp at hd; omega
  · cases hd

theorem val_lt {xs : List Nat} (h : Lt32 xs) : val xs < P32 xs.length := by
  induction xs with
  | nil => simp [val, P32]
  | cons x t ih =>
    have h1 := ih h.tail
    have h2 := h.head
    rw [val, List.length_cons, P32_succ]
    omega

theorem val_zeros (n : Nat) : val (List.replicate n 0) = 0 := by
  induction n with
  | zero => rfl
  | succ n ih => rw [List.replicate_succ, val, ih]

theorem take_snoc {xs : List Nat} {k d : Nat} (h : xs[k]? = some d) : xs.take (k + 1) = xs.take k ++ [d] := by
  obtain ⟨hl, rfl⟩ := List.getElem?_eq_some_iff.1 h
  rw [List.take_succ_eq_append_getElem hl]

theorem val_take_succ {xs : List Nat} {k d : Nat} (h : xs[k]? = some d) : val (xs.take (k + 1)) = val (xs.take k) + P32 k * d := by
  obtain ⟨hl, _⟩ := List.getElem?_eq_some_iff.1 h
  rw [take_snoc h, val_snoc, List.length_take, Nat.min_eq_left (by omega)]

theorem val_take_all {xs : List Nat} {k : Nat} (h : xs.length ≤ k) : val (xs.take k) = val xs := by rw [List.take_of_length_le h]

/-- What trim leaves has the same value. -/
theorem val_trim {xs : List Nat} {m : Nat} (h : ∀ j d : Nat, m ≤ j → xs[j]? = some d → d = 0) : val (xs.take m) = val xs := by
  have e : xs.drop m = List.replicate (xs.drop m).length 0 := by
    apply List.eq_replicate_iff.2
    refine ⟨rfl, fun b hb => ?_⟩
    obtain ⟨i, hi, rfl⟩ := List.getElem_of_mem hb
    have := List.getElem?_eq_getElem hi
    rw [List.getElem?_drop] at this
    exact h _ _ (by omega) this
  have h2 := val_append (xs.take m) (xs.drop m)
  rw [List.take_append_drop, e, val_zeros] at h2
  omega

/-- The digits have no zeros at the end. -/
def Trim (xs : List Nat) : Prop := 0 < xs.length → ∃ d, xs[xs.length - 1]? = some d ∧ d ≠ 0

theorem set_front (f t : List Nat) (a v : Nat) : (f ++ a :: t).set f.length v = f ++ [v] ++ t := by
  rw [List.set_append_right _ _ (Nat.le_refl _)]
  simp

theorem Trim.ge {xs : List Nat} (h : Trim xs) (h0 : 0 < xs.length) : P32 (xs.length - 1) ≤ val xs := by
  obtain ⟨d, hd, hne⟩ := h h0
  have e := val_take_succ hd
  rw [val_take_all (by omega)] at e
  have : P32 (xs.length - 1) * 1 ≤ P32 (xs.length - 1) * d := Nat.mul_le_mul_left _ (by omega)
  omega

/-- Digits without zeros at the end: the number of them follows from the value. -/
theorem Trim.len_le {xs : List Nat} (h : Trim xs) {n : Nat} (hv : val xs < P32 n) : xs.length ≤ n := by
  rcases Nat.eq_zero_or_pos xs.length with h0 | h0
  · omega
  · have h1 := h.ge h0
    rcases Nat.lt_or_ge n xs.length with hlt | hge
    · exfalso
      have : P32 n ≤ P32 (xs.length - 1) := Nat.pow_le_pow_right (by omega) (by omega)
      omega
    · exact hge

/-- Two such lists of the same value are one. -/
theorem val_inj {xs ys : List Nat} (hl : xs.length = ys.length) (hx : Lt32 xs) (hy : Lt32 ys) (hv : val xs = val ys) : xs = ys := by
  induction xs generalizing ys with
  | nil => cases ys with
    | nil => rfl
    | cons y t => simp at hl
  | cons x t ih => cases ys with
    | nil => simp at hl
    | cons y u =>
      have h1 := hx.head
      have h2 := hy.head
      rw [val, val] at hv
      have e : x = y := by omega
      subst e
      rw [ih (by simpa using hl) hx.tail hy.tail (by omega)]

theorem get_front {f : List Nat} {i r : Nat} (hf : f.length = i) (hr : 0 < r) : (f ++ List.replicate r 0)[i]? = some 0 := by
  rw [List.getElem?_append_right (by omega), List.getElem?_replicate, if_pos (by omega)]

theorem set_zero {f : List Nat} {i r s : Nat} (hf : f.length = i) (hr : r = s + 1) (v : Nat) : (f ++ List.replicate r 0).set i v = (f ++ [v]) ++ List.replicate s 0 := by
  subst hf hr
  rw [List.replicate_succ, set_front]

theorem carry_step {f : List Nat} {i : Nat} (hf : f.length = i) (s : Nat) : val (f ++ [s % 4294967296]) + P32 (i + 1) * (s / 4294967296) = val f + P32 i * s := by
  rw [val_snoc, hf, P32_succ, Nat.mul_comm 4294967296 (P32 i), Nat.mul_assoc, Nat.add_assoc, ← Nat.mul_add, Nat.mod_add_div]

/-- The sign of a comparison. -/
def cmpI (a b : Nat) : Int := if a < b then -1 else if a = b then 0 else 1
theorem cmpI_lt {a b : Nat} (h : a < b) : cmpI a b = -1 := if_pos h
theorem cmpI_eq {a b : Nat} (h : a = b) : cmpI a b = 0 := by unfold cmpI; rw [if_neg (by omega), if_pos h]
theorem cmpI_gt {a b : Nat} (h : b < a) : cmpI a b = 1 := by unfold cmpI; rw [if_neg (by omega), if_neg (by omega)]

theorem drop_cons {xs : List Nat} {k x : Nat} (h : xs[k]? = some x) : xs.drop k = x :: xs.drop (k + 1) := by
  obtain ⟨hl, rfl⟩ := List.getElem?_eq_some_iff.1 h
  exact List.drop_eq_getElem_cons hl

theorem val_split {xs : List Nat} {k x : Nat} (h : xs[k]? = some x) : val xs = val (xs.take k) + P32 k * x + P32 (k + 1) * val (xs.drop (k + 1)) := by
  obtain ⟨hl, _⟩ := List.getElem?_eq_some_iff.1 h
  have e := val_append (xs.take k) (xs.drop k)
  rw [List.take_append_drop, drop_cons h, val, List.length_take, Nat.min_eq_left (by omega), Nat.mul_add] at e
  rw [e, P32_succ, Nat.mul_comm 4294967296 (P32 k), Nat.mul_assoc]
  omega

theorem val_lt_at {xs ys : List Nat} {k x y : Nat} (hx : xs[k]? = some x) (hy : ys[k]? = some y) (hd : xs.drop (k + 1) = ys.drop (k + 1)) (l1 : Lt32 xs) (hxy : x < y) : val xs < val ys := by
  have e1 := val_split hx
  have e2 := val_split hy
  rw [hd] at e1
  have h1 := val_lt (l1.take k)
  obtain ⟨hl, _⟩ := List.getElem?_eq_some_iff.1 hx
  rw [List.length_take, Nat.min_eq_left (by omega)] at h1
  have h2 : P32 k * (x + 1) ≤ P32 k * y := Nat.mul_le_mul_left _ hxy
  rw [Nat.mul_add, Nat.mul_one] at h2
  omega

theorem Trim.lt_of_len {xs ys : List Nat} (hy : Trim ys) (l1 : Lt32 xs) (h : xs.length < ys.length) : val xs < val ys := by
  have h1 := val_lt l1
  have h2 := hy.ge (by omega)
  have : P32 xs.length ≤ P32 (ys.length - 1) := Nat.pow_le_pow_right (by omega) (by omega)
  omega

theorem borrow_step {f : List Nat} {i a b x y cy cy' v : Nat} (hf : f.length = i) (h : val f + b = a + P32 i * cy) (hv : v + cy + y = x + 4294967296 * cy') :
    val (f ++ [v]) + (b + P32 i * y) = a + P32 i * x + P32 (i + 1) * cy' := by
  have e : P32 i * (v + cy + y) = P32 i * (x + 4294967296 * cy') := by rw [hv]
  rw [Nat.mul_add, Nat.mul_add, Nat.mul_add, ← Nat.mul_assoc, Nat.mul_comm (P32 i) 4294967296, ← P32_succ] at e
  rw [val_snoc, hf]
  omega

theorem val_zero {xs : List Nat} (ht : Trim xs) (h : val xs = 0) : xs = [] := by
  cases xs with
  | nil => rfl
  | cons x t =>
    have := ht.ge (by simp)
    have := P32_pos ((x :: t).length - 1)
    omega

theorem set_drop {xs : List Nat} {k v : Nat} (h : k < xs.length) : (xs.set k v).drop k = v :: xs.drop (k + 1) := by
  rw [List.drop_eq_getElem_cons (by simpa using h), List.getElem_set_self, List.drop_set_of_lt (by omega)]

theorem Lt32.set {xs : List Nat} (h : Lt32 xs) {k v : Nat} (hv : v < 4294967296) : Lt32 (xs.set k v) := fun j d hd => by
  rw [List.getElem?_set] at hd
  split at hd
  · split at hd
    · simp at hd; omega
    · cases hd
  · exact h j d hd

theorem val_set {xs : List Nat} {k o : Nat} (h : xs[k]? = some o) (v : Nat) : val (xs.set k v) + P32 k * o = val xs + P32 k * v := by
  obtain ⟨hl, _⟩ := List.getElem?_eq_some_iff.1 h
  have e1 := val_split h
  have e2 := val_split (xs := xs.set k v) (k := k) (x := v) (by rw [List.getElem?_set_self hl])
  rw [List.take_set_of_le (Nat.le_refl _), List.drop_set_of_lt (by omega)] at e2
  omega

/-- A step of a division by one digit. -/
theorem digit_step {X Q y r x : Nat} (h : X = Q * y + r) :
    x + 4294967296 * X = ((r * 4294967296 + x) / y + 4294967296 * Q) * y + (r * 4294967296 + x) % y := by
  have e := Nat.div_add_mod (r * 4294967296 + x) y
  rw [Nat.mul_comm] at e
  rw [Nat.add_mul, h, Nat.mul_add, ← Nat.mul_assoc]
  omega

/-- A shift to the left: the low part of a digit is a multiple of 2^k. -/
theorem shl_parts (x k : Nat) (hk : k ≤ 32) : (x * 2 ^ k) % 4294967296 = (x % 2 ^ (32 - k)) * 2 ^ k := by
  have e : (4294967296 : Nat) = 2 ^ (32 - k) * 2 ^ k := by rw [← Nat.pow_add, show 32 - k + k = 32 by omega]
  rw [e, Nat.mul_mod_mul_right]

theorem shl_high {x k : Nat} (hx : x < 4294967296) : (x * 2 ^ k) / 4294967296 < 2 ^ k := by
  apply Nat.div_lt_of_lt_mul
  rw [Nat.mul_comm 4294967296]
  rw [Nat.mul_comm]
  exact Nat.mul_lt_mul_of_pos_left hx (Nat.pow_pos (by omega))

theorem pow_le (k : Nat) (hk : k ≤ 31) : 2 ^ k ≤ 2147483648 := by
  have : 2 ^ k ≤ 2 ^ 31 := Nat.pow_le_pow_right (by omega) hk
  omega

/-- A digit of a shift to the right. -/
theorem shr_digit {x y k : Nat} (hk : k ≤ 31) (hx : x < 4294967296) :
    ((x + y * 4294967296) / 2 ^ k % 4294967296) * 2 ^ k + x % 2 ^ k = x + 4294967296 * (y % 2 ^ k) := by
  have e : (4294967296 : Nat) = 2 ^ (32 - k) * 2 ^ k := by rw [← Nat.pow_add, show 32 - k + k = 32 by omega]
  have hp : 0 < 2 ^ k := Nat.pow_pos (by omega)
  have e1 : (x + y * 4294967296) / 2 ^ k = x / 2 ^ k + y * 2 ^ (32 - k) := by
    rw [e, ← Nat.mul_assoc, Nat.add_mul_div_right _ _ hp]
  have e2 := Nat.div_add_mod y (2 ^ k)
  have e3 := Nat.div_add_mod x (2 ^ k)
  have hlt : x / 2 ^ k < 2 ^ (32 - k) := by
    apply Nat.div_lt_of_lt_mul
    rw [Nat.mul_comm, ← e]; exact hx
  have hr : y % 2 ^ k < 2 ^ k := Nat.mod_lt _ hp
  have e4 : x / 2 ^ k + y * 2 ^ (32 - k) = (x / 2 ^ k + (y % 2 ^ k) * 2 ^ (32 - k)) + 4294967296 * (y / 2 ^ k) := by
    have : y * 2 ^ (32 - k) = (y % 2 ^ k) * 2 ^ (32 - k) + 4294967296 * (y / 2 ^ k) := by
      conv => lhs; rw [← e2]
      rw [Nat.add_mul, e, Nat.mul_assoc (2 ^ (32 - k)), Nat.mul_comm (2 ^ (32 - k)), Nat.add_comm]
    omega
  have hle : (y % 2 ^ k) * 2 ^ (32 - k) + 2 ^ (32 - k) ≤ 4294967296 := by
    have : (y % 2 ^ k + 1) * 2 ^ (32 - k) ≤ 2 ^ k * 2 ^ (32 - k) := Nat.mul_le_mul_right _ hr
    rw [Nat.add_mul, Nat.one_mul, Nat.mul_comm (2 ^ k), ← e] at this
    exact this
  rw [e1, e4, Nat.add_mul_mod_self_left, Nat.mod_eq_of_lt (by omega), Nat.add_mul, Nat.mul_assoc, ← e]
  rw [Nat.mul_comm] at e3
  rw [Nat.mul_comm 4294967296]
  omega

theorem shr_step {f xs : List Nat} {i k x y a : Nat} (hf : f.length = i) (h : val f * 2 ^ k + a = val (xs.take i) + P32 i * (xs.getD i 0 % 2 ^ k)) (hx : xs[i]? = some x) (hy : xs.getD (i + 1) 0 = y) (hk : k ≤ 31) (hxl : x < 4294967296) :
    val (f ++ [(x + y * 4294967296) / 2 ^ k % 4294967296]) * 2 ^ k + a = val (xs.take (i + 1)) + P32 (i + 1) * (xs.getD (i + 1) 0 % 2 ^ k) := by
  have e := shr_digit (y := y) hk hxl
  rw [hy, val_take_succ hx, val_snoc, hf, Nat.add_mul, P32_succ]
  rw [List.getD_eq_getElem?_getD, hx] at h
  simp only [Option.getD_some] at h
  have e2 : P32 i * ((x + y * 4294967296) / 2 ^ k % 4294967296 * 2 ^ k + x % 2 ^ k) = P32 i * (x + 4294967296 * (y % 2 ^ k)) := by rw [e]
  rw [Nat.mul_add, Nat.mul_add] at e2
  rw [Nat.mul_assoc (P32 i), Nat.mul_comm 4294967296 (P32 i), Nat.mul_assoc (P32 i) 4294967296]
  omega

theorem mul_step {qs : List Nat} {i j cy x y z V T : Nat} (hz : qs[i + j]? = some z) (h : val qs + P32 (i + j) * cy = V + P32 i * x * T) :
    val (qs.set (i + j) ((cy + (x * y + z)) % 4294967296)) + P32 (i + (j + 1)) * ((cy + (x * y + z)) / 4294967296) = V + P32 i * x * (T + P32 j * y) := by
  have e := val_set hz ((cy + (x * y + z)) % 4294967296)
  have e2 : P32 (i + j) * ((cy + (x * y + z)) % 4294967296) + P32 (i + (j + 1)) * ((cy + (x * y + z)) / 4294967296) = P32 (i + j) * (cy + (x * y + z)) := by
    rw [← Nat.add_assoc i j 1, P32_succ, Nat.mul_comm 4294967296 (P32 (i + j)), Nat.mul_assoc, ← Nat.mul_add, Nat.mod_add_div]
  rw [Nat.mul_add (P32 (i + j)), Nat.mul_add (P32 (i + j))] at e2
  have e3 : P32 i * x * (P32 j * y) = P32 (i + j) * (x * y) := by
    rw [P32_add, Nat.mul_assoc, Nat.mul_assoc, Nat.mul_left_comm x]
  rw [Nat.mul_add, e3]
  omega

theorem take_step {f : List Nat} {i cy bw cy' b' q d u dg lo X Y : Nat} (hf : f.length = i) (h : val f + q * X = Y + P32 i * (cy + bw)) (hs : cy + q * d = lo + 4294967296 * cy') (hd : dg + lo + bw = u + 4294967296 * b') :
    val (f ++ [dg]) + q * (X + P32 i * d) = Y + P32 i * u + P32 (i + 1) * (cy' + b') := by
  have e1 : P32 i * (dg + q * d + cy + bw) = P32 i * dg + P32 i * (q * d) + P32 i * (cy + bw) := by rw [← Nat.mul_add, ← Nat.mul_add, Nat.add_assoc (dg + q * d)]
  have e3 : q * (P32 i * d) = P32 i * (q * d) := by rw [Nat.mul_left_comm]
  have hs2 : dg + q * d + cy + bw = u + 4294967296 * (cy' + b') := by omega
  have e4 : P32 i * (dg + q * d + cy + bw) = P32 i * u + P32 (i + 1) * (cy' + b') := by
    rw [hs2, Nat.mul_add, P32_succ, ← Nat.mul_assoc (P32 i), Nat.mul_comm (P32 i) 4294967296]
  rw [val_snoc, hf, Nat.mul_add, e3]
  omega

theorem window_take {L : List Nat} {j i u : Nat} (h : L[j + i]? = some u) : val ((L.drop j).take (i + 1)) = val ((L.drop j).take i) + P32 i * u :=
  val_take_succ (by rw [List.getElem?_drop]; exact h)

theorem window_set {L f : List Nat} {j i u : Nat} (hl : (L.take j).length = j) (hf : f.length = i) (h : L[j + i]? = some u) (v : Nat) :
    (L.take j ++ f ++ L.drop (j + i)).set (j + i) v = L.take j ++ (f ++ [v]) ++ L.drop (j + (i + 1)) := by
  have e : (L.take j ++ f).length = j + i := by rw [List.length_append, hl, hf]
  rw [drop_cons h]
  have := set_front (L.take j ++ f) (L.drop (j + i + 1)) u v
  rw [e] at this
  rw [this, List.append_assoc (L.take j), Nat.add_assoc j i 1]

end Go.Proofs.YthiogjpjkdnbjaaGreatDoor
