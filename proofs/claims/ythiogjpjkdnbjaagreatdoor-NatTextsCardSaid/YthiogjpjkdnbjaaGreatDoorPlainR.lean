/-
  Plain facts on digits to the base 2^24 and on lists. No program in sight.
-/
namespace Go.Proofs.YthiogjpjkdnbjaaGreatDoor.R

/-- The value of digits to the base 2^24, the least significant one first. -/
def val : List Nat → Nat
  | [] => 0
  | x :: t => x + 16777216 * val t

/-- 2^24 to the power of n. -/
def P24 (n : Nat) : Nat := 16777216 ^ n

theorem P24_zero : P24 0 = 1 := rfl
theorem P24_succ (n : Nat) : P24 (n + 1) = 16777216 * P24 n := by unfold P24; rw [Nat.pow_succ, Nat.mul_comm]
theorem P24_pos (n : Nat) : 0 < P24 n := Nat.pow_pos (by omega)
theorem P24_add (m n : Nat) : P24 (m + n) = P24 m * P24 n := Nat.pow_add _ _ _

theorem val_append (xs ys : List Nat) : val (xs ++ ys) = val xs + P24 xs.length * val ys := by
  induction xs with
  | nil => simp [val, P24]
  | cons x t ih =>
    rw [List.cons_append, val, ih, val, List.length_cons, P24_succ, Nat.mul_add, Nat.mul_assoc]; omega

theorem val_snoc (xs : List Nat) (d : Nat) : val (xs ++ [d]) = val xs + P24 xs.length * d := by rw [val_append]; simp [val]

/-- All digits are less than 2^24. -/
def Lt24 (xs : List Nat) : Prop := ∀ j d : Nat, xs[j]? = some d → d < 16777216

theorem Lt24.nil : Lt24 [] := fun j d h => by simp at h
theorem Lt24.tail {x : Nat} {xs : List Nat} (h : Lt24 (x :: xs)) : Lt24 xs := fun j d hd => h (j + 1) d (by simpa using hd)
theorem Lt24.head {x : Nat} {xs : List Nat} (h : Lt24 (x :: xs)) : x < 16777216 := h 0 x (by simp)
theorem Lt24.append {xs ys : List Nat} (h : Lt24 xs) (k : Lt24 ys) : Lt24 (xs ++ ys) := fun j d hd => by
  rw [List.getElem?_append] at hd
  split at hd
  · exact h _ _ hd
  · exact k _ _ hd
theorem Lt24.one {d : Nat} (h : d < 16777216) : Lt24 [d] := fun j e he => by
  match j with
  | 0 => simp at he; omega
  | j + 1 => simp at he
theorem Lt24.snoc {xs : List Nat} {d : Nat} (h : Lt24 xs) (hd : d < 16777216) : Lt24 (xs ++ [d]) := h.append (Lt24.one hd)
theorem Lt24.take {xs : List Nat} (h : Lt24 xs) (m : Nat) : Lt24 (xs.take m) := fun j d hd => by
  rw [List.getElem?_take] at hd
  split at hd
  · exact h _ _ hd
  · cases hd
theorem Lt24.drop {xs : List Nat} (h : Lt24 xs) (m : Nat) : Lt24 (xs.drop m) := fun j d hd => by
  rw [List.getElem?_drop] at hd
  exact h _ _ hd
theorem Lt24.zeros (n : Nat) : Lt24 (List.replicate n 0) := fun j d hd => by
  rw [List.getElem?_replicate] at hd
  split at hd
  · simp at hd; omega
  · cases hd

theorem val_lt {xs : List Nat} (h : Lt24 xs) : val xs < P24 xs.length := by
  induction xs with
  | nil => simp [val, P24]
  | cons x t ih =>
    have h1 := ih h.tail
    have h2 := h.head
    rw [val, List.length_cons, P24_succ]
    omega

theorem val_zeros (n : Nat) : val (List.replicate n 0) = 0 := by
  induction n with
  | zero => rfl
  | succ n ih => rw [List.replicate_succ, val, ih]

theorem take_snoc {xs : List Nat} {k d : Nat} (h : xs[k]? = some d) : xs.take (k + 1) = xs.take k ++ [d] := by
  obtain ⟨hl, rfl⟩ := List.getElem?_eq_some_iff.1 h
  rw [List.take_succ_eq_append_getElem hl]

theorem val_take_succ {xs : List Nat} {k d : Nat} (h : xs[k]? = some d) : val (xs.take (k + 1)) = val (xs.take k) + P24 k * d := by
  obtain ⟨hl, _⟩ := List.getElem?_eq_some_iff.1 h
  rw [take_snoc h, val_snoc, List.length_take, Nat.min_eq_left (by omega)]

theorem val_take_all {xs : List Nat} {k : Nat} (h : xs.length ≤ k) : val (xs.take k) = val xs := by rw [List.take_of_length_le h]

/-- What trim leaves has the same value. -/
theorem val_trim {xs : List Nat} {m : Nat} (h : ∀ j d : Nat, m ≤ j → xs[j]? = some d → d = 0) : val (xs.take m) = val xs := by
  have e : xs.drop m = List.replicate (xs.drop m).length 0 := by
    apply List.eq_replicate_iff.2
    refine ⟨rfl, fun b hb => ?_⟩
    obtain ⟨i, hi, rfl⟩ := List.getElem_of_mem hb
    have := List.getElem?_eq_getElem hi
    rw [List.getElem?_drop] at this
    exact h _ _ (by omega) this
  have h2 := val_append (xs.take m) (xs.drop m)
  rw [List.take_append_drop, e, val_zeros] at h2
  omega

/-- The digits have no zeros at the end. -/
def Trim (xs : List Nat) : Prop := 0 < xs.length → ∃ d, xs[xs.length - 1]? = some d ∧ d ≠ 0

theorem set_front (f t : List Nat) (a v : Nat) : (f ++ a :: t).set f.length v = f ++ [v] ++ t := by
  rw [List.set_append_right _ _ (Nat.le_refl _)]
  simp

theorem Trim.ge {xs : List Nat} (h : Trim xs) (h0 : 0 < xs.length) : P24 (xs.length - 1) ≤ val xs := by
  obtain ⟨d, hd, hne⟩ := h h0
  have e := val_take_succ hd
  rw [val_take_all (by omega)] at e
  have : P24 (xs.length - 1) * 1 ≤ P24 (xs.length - 1) * d := Nat.mul_le_mul_left _ (by omega)
  omega

/-- Digits without zeros at the end: the number of them follows from the value. -/
theorem Trim.len_le {xs : List Nat} (h : Trim xs) {n : Nat} (hv : val xs < P24 n) : xs.length ≤ n := by
  rcases Nat.eq_zero_or_pos xs.length with h0 | h0
  · omega
  · have h1 := h.ge h0
    rcases Nat.lt_or_ge n xs.length with hlt | hge
    · exfalso
      have : P24 n ≤ P24 (xs.length - 1) := Nat.pow_le_pow_right (by omega) (by omega)
      omega
    · exact hge

/-- Two such lists of the same value are one. -/
theorem val_inj {xs ys : List Nat} (hl : xs.length = ys.length) (hx : Lt24 xs) (hy : Lt24 ys) (hv : val xs = val ys) : xs = ys := by
  induction xs generalizing ys with
  | nil => cases ys with
    | nil => rfl
    | cons y t => simp at hl
  | cons x t ih => cases ys with
    | nil => simp at hl
    | cons y u =>
      have h1 := hx.head
      have h2 := hy.head
      rw [val, val] at hv
      have e : x = y := by omega
      subst e
      rw [ih (by simpa using hl) hx.tail hy.tail (by omega)]

theorem get_front {f : List Nat} {i r : Nat} (hf : f.length = i) (hr : 0 < r) : (f ++ List.replicate r 0)[i]? = some 0 := by
  rw [List.getElem?_append_right (by omega), List.getElem?_replicate, if_pos (by omega)]

theorem set_zero {f : List Nat} {i r s : Nat} (hf : f.length = i) (hr : r = s + 1) (v : Nat) : (f ++ List.replicate r 0).set i v = (f ++ [v]) ++ List.replicate s 0 := by
  subst hf hr
  rw [List.replicate_succ, set_front]

theorem carry_step {f : List Nat} {i : Nat} (hf : f.length = i) (s : Nat) : val (f ++ [s % 16777216]) + P24 (i + 1) * (s / 16777216) = val f + P24 i * s := by
  rw [val_snoc, hf, P24_succ, Nat.mul_comm 16777216 (P24 i), Nat.mul_assoc, Nat.add_assoc, ← Nat.mul_add, Nat.mod_add_div]

/-- The sign of a comparison. -/

theorem drop_cons {xs : List Nat} {k x : Nat} (h : xs[k]? = some x) : xs.drop k = x :: xs.drop (k + 1) := by
  obtain ⟨hl, rfl⟩ := List.getElem?_eq_some_iff.1 h
  exact List.drop_eq_getElem_cons hl

theorem val_split {xs : List Nat} {k x : Nat} (h : xs[k]? = some x) : val xs = val (xs.take k) + P24 k * x + P24 (k + 1) * val (xs.drop (k + 1)) := by
  obtain ⟨hl, _⟩ := List.getElem?_eq_some_iff.1 h
  have e := val_append (xs.take k) (xs.drop k)
  rw [List.take_append_drop, drop_cons h, val, List.length_take, Nat.min_eq_left (by omega), Nat.mul_add] at e
  rw [e, P24_succ, Nat.mul_comm 16777216 (P24 k), Nat.mul_assoc]
  omega

theorem val_lt_at {xs ys : List Nat} {k x y : Nat} (hx : xs[k]? = some x) (hy : ys[k]? = some y) (hd : xs.drop (k + 1) = ys.drop (k + 1)) (l1 : Lt24 xs) (hxy : x < y) : val xs < val ys := by
  have e1 := val_split hx
  have e2 := val_split hy
  rw [hd] at e1
  have h1 := val_lt (l1.take k)
  obtain ⟨hl, _⟩ := List.getElem?_eq_some_iff.1 hx
  rw [List.length_take, Nat.min_eq_left (by omega)] at h1
  have h2 : P24 k * (x + 1) ≤ P24 k * y := Nat.mul_le_mul_left _ hxy
  rw [Nat.mul_add, Nat.mul_one] at h2
  omega

theorem Trim.lt_of_len {xs ys : List Nat} (hy : Trim ys) (l1 : Lt24 xs) (h : xs.length < ys.length) : val xs < val ys := by
  have h1 := val_lt l1
  have h2 := hy.ge (by omega)
  have : P24 xs.length ≤ P24 (ys.length - 1) := Nat.pow_le_pow_right (by omega) (by omega)
  omega

theorem borrow_step {f : List Nat} {i a b x y cy cy' v : Nat} (hf : f.length = i) (h : val f + b = a + P24 i * cy) (hv : v + cy + y = x + 16777216 * cy') :
    val (f ++ [v]) + (b + P24 i * y) = a + P24 i * x + P24 (i + 1) * cy' := by
  have e : P24 i * (v + cy + y) = P24 i * (x + 16777216 * cy') := by rw [hv]
  rw [Nat.mul_add, Nat.mul_add, Nat.mul_add, ← Nat.mul_assoc, Nat.mul_comm (P24 i) 16777216, ← P24_succ] at e
  rw [val_snoc, hf]
  omega

theorem val_zero {xs : List Nat} (ht : Trim xs) (h : val xs = 0) : xs = [] := by
  cases xs with
  | nil => rfl
  | cons x t =>
    have := ht.ge (by simp)
    have := P24_pos ((x :: t).length - 1)
    omega

theorem set_drop {xs : List Nat} {k v : Nat} (h : k < xs.length) : (xs.set k v).drop k = v :: xs.drop (k + 1) := by
  rw [List.drop_eq_getElem_cons (by simpa using h), List.getElem_set_self, List.drop_set_of_lt (by omega)]

theorem Lt24.set {xs : List Nat} (h : Lt24 xs) {k v : Nat} (hv : v < 16777216) : Lt24 (xs.set k v) := fun j d hd => by
  rw [List.getElem?_set] at hd
  split at hd
  · split at hd
    · simp at hd; omega
    · cases hd
  · exact h j d hd

theorem val_set {xs : List Nat} {k o : Nat} (h : xs[k]? = some o) (v : Nat) : val (xs.set k v) + P24 k * o = val xs + P24 k * v := by
  obtain ⟨hl, _⟩ := List.getElem?_eq_some_iff.1 h
  have e1 := val_split h
  have e2 := val_split (xs := xs.set k v) (k := k) (x := v) (by rw [List.getElem?_set_self hl])
  rw [List.take_set_of_le (Nat.le_refl _), List.drop_set_of_lt (by omega)] at e2
  omega

/-- A step of a division by one digit. -/
theorem digit_step {X Q y r x : Nat} (h : X = Q * y + r) :
    x + 16777216 * X = ((r * 16777216 + x) / y + 16777216 * Q) * y + (r * 16777216 + x) % y := by
  have e := Nat.div_add_mod (r * 16777216 + x) y
  rw [Nat.mul_comm] at e
  rw [Nat.add_mul, h, Nat.mul_add, ← Nat.mul_assoc]
  omega

theorem mul_step {qs : List Nat} {i j cy x y z V T : Nat} (hz : qs[i + j]? = some z) (h : val qs + P24 (i + j) * cy = V + P24 i * x * T) :
    val (qs.set (i + j) ((cy + (x * y + z)) % 16777216)) + P24 (i + (j + 1)) * ((cy + (x * y + z)) / 16777216) = V + P24 i * x * (T + P24 j * y) := by
  have e := val_set hz ((cy + (x * y + z)) % 16777216)
  have e2 : P24 (i + j) * ((cy + (x * y + z)) % 16777216) + P24 (i + (j + 1)) * ((cy + (x * y + z)) / 16777216) = P24 (i + j) * (cy + (x * y + z)) := by
    rw [← Nat.add_assoc i j 1, P24_succ, Nat.mul_comm 16777216 (P24 (i + j)), Nat.mul_assoc, ← Nat.mul_add, Nat.mod_add_div]
  rw [Nat.mul_add (P24 (i + j)), Nat.mul_add (P24 (i + j))] at e2
  have e3 : P24 i * x * (P24 j * y) = P24 (i + j) * (x * y) := by
    rw [P24_add, Nat.mul_assoc, Nat.mul_assoc, Nat.mul_left_comm x]
  rw [Nat.mul_add, e3]
  omega

end Go.Proofs.YthiogjpjkdnbjaaGreatDoor.R
