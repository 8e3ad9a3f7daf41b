/-
  Plain facts on the division of long numbers: the estimate of a digit. No program in sight.
-/
import Derived.Test.YthiogjpjkdnbjaaGreatDoorPlain
namespace Go.Proofs.YthiogjpjkdnbjaaGreatDoor

section
variable {p u0 u1 u2 v0 v1 lo lov U V : Nat}

/-- The first digit of the dividend is not greater than that of the divisor. -/
theorem est_top (hU : U = lo + p * (u0 + 4294967296 * (u1 + 4294967296 * u2))) (hV : V = lov + p * (v0 + 4294967296 * v1)) (hlov : lov < p) (k0 : v0 < 4294967296) (hlt : U < 4294967296 * V) : u2 ≤ v1 := by
  rcases Nat.lt_or_ge v1 u2 with h | h
  · exfalso
    have h1 : V < p * (4294967296 * (v1 + 1)) := by
      have : p * (v0 + 4294967296 * v1 + 1) ≤ p * (4294967296 * (v1 + 1)) := Nat.mul_le_mul_left _ (by omega)
      rw [Nat.mul_add p _ 1] at this
      omega
    have h2 : p * (4294967296 * (4294967296 * (v1 + 1))) ≤ p * (u0 + 4294967296 * (u1 + 4294967296 * u2)) := Nat.mul_le_mul_left _ (by omega)
    have h3 : 4294967296 * V < 4294967296 * (p * (4294967296 * (v1 + 1))) := by omega
    have h4 : 4294967296 * (p * (4294967296 * (v1 + 1))) = p * (4294967296 * (4294967296 * (v1 + 1))) := Nat.mul_left_comm _ _ _
    omega
  · exact h

theorem est_more (hU : U = lo + p * (u0 + 4294967296 * (u1 + 4294967296 * u2))) (hlo : lo < p) (hV : V = lov + p * (v0 + 4294967296 * v1)) (l0 : u0 < 4294967296) {q t r : Nat} (hq : q * V ≤ U) (ht : t * v1 + r = u2 * 4294967296 + u1) (hr : r < v1) : q ≤ t := by
  rcases Nat.lt_or_ge t q with h | h
  · exfalso
    have h1 : (t + 1) * V ≤ q * V := Nat.mul_le_mul_right _ h
    have h2 : p * (4294967296 * ((t + 1) * v1)) ≤ (t + 1) * V := by
      have : (t + 1) * (p * (4294967296 * v1)) ≤ (t + 1) * V := Nat.mul_le_mul_left _ (by
        rw [hV]
        have : p * (4294967296 * v1) ≤ p * (v0 + 4294967296 * v1) := Nat.mul_le_mul_left _ (by omega)
        omega)
      have e : (t + 1) * (p * (4294967296 * v1)) = p * (4294967296 * ((t + 1) * v1)) := by
        rw [Nat.mul_left_comm (t + 1) p, Nat.mul_left_comm (t + 1) 4294967296]
      omega
    have h3 : (t + 1) * v1 = t * v1 + v1 := by rw [Nat.add_mul, Nat.one_mul]
    have h4 : p * (u0 + 4294967296 * (u1 + 4294967296 * u2) + 1) ≤ p * (4294967296 * ((t + 1) * v1)) := Nat.mul_le_mul_left _ (by omega)
    rw [Nat.mul_add p _ 1] at h4
    omega
  · exact h

theorem est_over (hU : U = lo + p * (u0 + 4294967296 * (u1 + 4294967296 * u2))) (hlo : lo < p) (hV : V = lov + p * (v0 + 4294967296 * v1)) {q t r : Nat} (hq : q * V ≤ U) (ht : t * v1 + r = u2 * 4294967296 + u1) (h : r * 4294967296 + u0 < t * v0) : q < t := by
  rcases Nat.lt_or_ge q t with h1 | h1
  · exact h1
  · exfalso
    have h2 : t * V ≤ q * V := Nat.mul_le_mul_right _ h1
    have h3 : t * (p * (v0 + 4294967296 * v1)) ≤ t * V := Nat.mul_le_mul_left _ (by omega)
    have e : t * (p * (v0 + 4294967296 * v1)) = p * (t * v0 + 4294967296 * (t * v1)) := by
      rw [Nat.mul_left_comm t p, Nat.mul_add t, Nat.mul_left_comm t 4294967296]
    have h4 : p * (u0 + 4294967296 * (u1 + 4294967296 * u2) + 1) ≤ p * (t * v0 + 4294967296 * (t * v1)) := Nat.mul_le_mul_left _ (by omega)
    rw [Nat.mul_add p _ 1] at h4
    omega

theorem est_post (hp : 0 < p) (hU : U = lo + p * (u0 + 4294967296 * (u1 + 4294967296 * u2))) (hV : V = lov + p * (v0 + 4294967296 * v1)) (hlov : lov < p) (hv : 0 < v1) {t r : Nat} (ht : t * v1 + r = u2 * 4294967296 + u1) (htl : t < 4294967296) (h : t * v0 ≤ r * 4294967296 + u0) : t * V < U + V := by
  have e : t * V = t * lov + p * (t * v0 + 4294967296 * (t * v1)) := by
    rw [hV, Nat.mul_add, Nat.mul_left_comm t p, Nat.mul_add t, Nat.mul_left_comm t 4294967296]
  have h1 : p * (t * v0 + 4294967296 * (t * v1)) ≤ p * (u0 + 4294967296 * (u1 + 4294967296 * u2)) := Nat.mul_le_mul_left _ (by omega)
  have h2 : t * lov ≤ t * p := Nat.mul_le_mul_left _ (by omega)
  have h3 : t * p < 4294967296 * p := Nat.mul_lt_mul_of_pos_right htl hp
  have h4 : p * 4294967296 ≤ p * (v0 + 4294967296 * v1) := Nat.mul_le_mul_left _ (by omega)
  omega

end

/-- A list of digits from place m on, three of them named. -/
theorem val_three {us : List Nat} {m u0 u1 u2 : Nat} (hl : us.length = m + 3) (h0 : us[m]? = some u0) (h1 : us[m + 1]? = some u1) (h2 : us[m + 2]? = some u2) :
    val us = val (us.take m) + P32 m * (u0 + 4294967296 * (u1 + 4294967296 * u2)) := by
  have e := val_append (us.take m) (us.drop m)
  rw [List.take_append_drop, drop_cons h0, drop_cons h1, drop_cons h2, List.drop_of_length_le (by omega), List.length_take, Nat.min_eq_left (by omega)] at e
  simpa [val] using e

theorem val_two {us : List Nat} {m u0 u1 : Nat} (hl : us.length = m + 2) (h0 : us[m]? = some u0) (h1 : us[m + 1]? = some u1) :
    val us = val (us.take m) + P32 m * (u0 + 4294967296 * u1) := by
  have e := val_append (us.take m) (us.drop m)
  rw [List.take_append_drop, drop_cons h0, drop_cons h1, List.drop_of_length_le (by omega), List.length_take, Nat.min_eq_left (by omega)] at e
  simpa [val] using e

theorem val_take_lt {us : List Nat} {m : Nat} (h : Lt32 us) (hm : m ≤ us.length) : val (us.take m) < P32 m := by
  have := val_lt (h.take m)
  rwa [List.length_take, Nat.min_eq_left hm] at this

/-- A value bounds how many digits are not zero. -/
theorem zeros_of_val {us : List Nat} {n : Nat} (hv : val us < P32 n) : ∀ j d : Nat, n ≤ j → us[j]? = some d → d = 0 := by
  intro j d hj hd
  rcases Nat.eq_zero_or_pos d with h | h
  · exact h
  · exfalso
    have e := val_split hd
    have h1 : P32 j * 1 ≤ P32 j * d := Nat.mul_le_mul_left _ h
    have h2 : P32 n ≤ P32 j := Nat.pow_le_pow_right (by omega) hj
    omega

/-- A step of the division: the window of the dividend gives up its multiple of the divisor. -/
theorem div_step {L us : List Nat} {j q V Q U0 : Nat} (hj : j ≤ L.length) (hus : val us = val (L.drop j) % V) (hq : q = val (L.drop j) / V)
    (h : val L + P32 (j + 1) * Q * V = U0) : val (L.take j ++ us) + P32 j * (q + 4294967296 * Q) * V = U0 := by
  have e := val_append (L.take j) (L.drop j)
  rw [List.take_append_drop, List.length_take, Nat.min_eq_left hj] at e
  rw [val_append, List.length_take, Nat.min_eq_left hj, hus, hq, ← h, e, P32_succ]
  have h1 := Nat.div_add_mod (val (L.drop j)) V
  have e2 : P32 j * (val (L.drop j) / V + 4294967296 * Q) * V = P32 j * (V * (val (L.drop j) / V)) + 4294967296 * P32 j * Q * V := by
    rw [Nat.mul_add (P32 j), Nat.add_mul, Nat.mul_assoc (P32 j), Nat.mul_comm (val (L.drop j) / V) V, ← Nat.mul_assoc (P32 j) 4294967296 Q, Nat.mul_comm (P32 j) 4294967296]
  have e3 : P32 j * val (L.drop j) = P32 j * (V * (val (L.drop j) / V)) + P32 j * (val (L.drop j) % V) := by rw [← Nat.mul_add, h1]
  omega

/-- The normalized divisor: its top digit is at least 2^31, and it has no digit more. -/
theorem norm_facts0 {ys : List Nat} {n y p H B : Nat} (hl : ys.length = n + 1) (hy : ys[n]? = some y) (hlt : Lt32 ys) (hp : 0 < p) (h1 : H ≤ y * p) (h2 : (y + 1) * p ≤ B) :
    P32 n * H ≤ val ys * p ∧ val ys * p < P32 n * B := by
  have e := val_split hy
  have e0 : val (ys.drop (n + 1)) = 0 := by rw [List.drop_of_length_le (by omega)]; rfl
  rw [e0, Nat.mul_zero, Nat.add_zero] at e
  have hb := val_take_lt (m := n) hlt (by omega)
  constructor
  · have h3 : P32 n * H ≤ P32 n * (y * p) := Nat.mul_le_mul_left _ h1
    rw [e, Nat.add_mul, Nat.mul_assoc (P32 n)]
    omega
  · have h3 : val ys < P32 n * (y + 1) := by rw [e, Nat.mul_add, Nat.mul_one]; omega
    have h4 : val ys * p < P32 n * (y + 1) * p := Nat.mul_lt_mul_of_pos_right h3 hp
    have h5 : P32 n * ((y + 1) * p) ≤ P32 n * B := Nat.mul_le_mul_left _ h2
    rw [Nat.mul_assoc] at h4
    omega

theorem norm_facts {ys : List Nat} {n y p : Nat} (hl : ys.length = n + 1) (hy : ys[n]? = some y) (hlt : Lt32 ys) (hp : 0 < p) (h1 : 2147483648 ≤ y * p) (h2 : (y + 1) * p ≤ 4294967296) :
    2147483648 * P32 n ≤ val ys * p ∧ val ys * p < P32 (n + 1) := by
  rw [P32_succ, Nat.mul_comm 2147483648, Nat.mul_comm 4294967296]
  exact norm_facts0 hl hy hlt hp h1 h2

/-- The upper digits of the shifted dividend are less than the divisor. -/
theorem top_lt0 {us : List Nat} {X N m n p H V : Nat} (hv : val us = X * p) (hX : X < P32 N) (hp : 0 < p) (hH : p ≤ H) (hk : m + n = N) (hm : m ≤ us.length) (hV : P32 n * H ≤ V) : val (us.drop m) < V := by
  have e := val_append (us.take m) (us.drop m)
  rw [List.take_append_drop, List.length_take, Nat.min_eq_left hm] at e
  have h1 : P32 m * val (us.drop m) < P32 m * (P32 n * p) := by
    have : X * p < P32 N * p := Nat.mul_lt_mul_of_pos_right hX hp
    rw [← hk, P32_add, Nat.mul_assoc] at this
    omega
  have h2 := Nat.lt_of_mul_lt_mul_left h1
  have h3 : P32 n * p ≤ P32 n * H := Nat.mul_le_mul_left _ hH
  omega

theorem top_lt {us : List Nat} {X N m n s V : Nat} (hv : val us = X * 2 ^ s) (hX : X < P32 N) (hs : s ≤ 31) (hk : m + n = N) (hm : m ≤ us.length) (hV : 2147483648 * P32 n ≤ V) : val (us.drop m) < V := by
  rw [Nat.mul_comm 2147483648] at hV
  exact top_lt0 hv hX (Nat.pow_pos (by omega)) (pow_le s hs) hk hm hV

theorem window_val {L : List Nat} {j n V : Nat} (h : val (L.drop (j + 1)) < V) (hV : V < P32 n) : val ((L.drop j).take (n + 1)) = val (L.drop j) := by
  apply val_trim
  intro i d hi hd
  obtain ⟨i', rfl⟩ : ∃ i', i = i' + 1 := ⟨i - 1, by omega⟩
  rw [List.getElem?_drop] at hd
  exact zeros_of_val (Nat.lt_trans h hV) i' d (by omega) (by rw [List.getElem?_drop, ← hd]; congr 1; omega)

theorem window_lt {L : List Nat} {j d V : Nat} (h : val (L.drop (j + 1)) < V) (hd : L[j]? = some d) (hdl : d < 4294967296) : val (L.drop j) < 4294967296 * V := by
  rw [drop_cons hd, val]
  omega

theorem window_rest {L : List Nat} {j n V : Nat} (h : val (L.drop (j + 1)) < V) (hV : V < P32 n) : val (L.drop (j + (n + 1))) = 0 := by
  have e := val_trim (xs := L.drop (j + (n + 1))) (m := 0) (fun i d _ hd => by
    rw [List.getElem?_drop] at hd
    exact zeros_of_val (Nat.lt_trans h hV) (n + i) d (by omega) (by rw [List.getElem?_drop, ← hd]; congr 1; omega))
  rw [List.take_zero] at e
  exact e.symm

/-- The quotient and the rest do not change if both numbers are shifted. -/
theorem shifted_div {x y s : Nat} : (x * 2 ^ s) / (y * 2 ^ s) = x / y ∧ (x * 2 ^ s) % (y * 2 ^ s) = x % y * 2 ^ s :=
  ⟨Nat.mul_div_mul_right _ _ (Nat.pow_pos (by omega)), Nat.mul_mod_mul_right _ _ _⟩

theorem add_front_val (T us R : List Nat) (h : val R = 0) : val (T ++ us ++ R) = val (T ++ us) := by rw [val_append, h]; omega

theorem took_none {u t V W q P : Nat} (hV : 0 < V) (h0 : u + t * V = W + P * 0) (hq : q = W / V) (hle : q ≤ t) : t = q ∧ u = W % V := by
  have h : u + t * V = W := by rw [Nat.mul_zero] at h0; exact h0
  have h1 : t ≤ W / V := (Nat.le_div_iff_mul_le hV).2 (by omega)
  obtain rfl : t = q := by omega
  have h2 := Nat.div_add_mod W V
  rw [← hq, Nat.mul_comm] at h2
  exact ⟨rfl, by omega⟩

theorem took_one {u u2 t V W q P c : Nat} (hV : 0 < V) (hP : V < P) (h : u + t * V = W + P) (hu : u < P) (hu2 : u2 < P) (hq : q = W / V) (hle : q ≤ t) (hle2 : t ≤ q + 1) (h2 : u2 + P * c = u + V) : t = q + 1 ∧ u2 = W % V := by
  have h3 := Nat.div_add_mod W V
  have h4 := Nat.mod_lt W hV
  rw [← hq, Nat.mul_comm] at h3
  have ht : t = q + 1 := by
    rcases Nat.lt_or_ge q t with h5 | h5
    · omega
    · exfalso
      obtain rfl : t = q := by omega
      omega
  subst ht
  rw [Nat.add_mul, Nat.one_mul] at h
  refine ⟨rfl, ?_⟩
  match c, h2 with
  | 0, h2 => rw [Nat.mul_zero] at h2; omega
  | 1, h2 => rw [Nat.mul_one] at h2; omega
  | c + 2, h2 =>
    exfalso
    have : P * 2 ≤ P * (c + 2) := Nat.mul_le_mul_left _ (by omega)
    omega

theorem window_again {L us : List Nat} {i n N : Nat} (hL : L.length = N + 1) (hu : us.length = n + 1) (hin : i + n ≤ N) :
    ((L.take i ++ us ++ L.drop (i + (n + 1))).drop i).take (n + 1) = us ∧ (L.take i ++ us ++ L.drop (i + (n + 1))).take i = L.take i ∧ (L.take i ++ us ++ L.drop (i + (n + 1))).drop (i + (n + 1)) = L.drop (i + (n + 1)) := by
  have hti : (L.take i).length = i := by rw [List.length_take]; omega
  refine ⟨?_, ?_, ?_⟩
  · rw [List.append_assoc, List.drop_append_of_le_length (by omega), List.drop_of_length_le (by omega), List.nil_append, List.take_append_of_le_length (by omega), List.take_of_length_le (by omega)]
  · rw [List.append_assoc, List.take_append_of_le_length (by omega), List.take_of_length_le (by omega)]
  · rw [List.drop_append, List.drop_of_length_le (by rw [List.length_append]; omega), List.length_append, hti, hu, Nat.sub_self, List.drop_zero, List.nil_append]

/-- What a round of the division leaves. -/
theorem window_step {L us Q : List Nat} {i n N q V U0 : Nat} (hL : L.length = N + 1) (hLt : Lt32 L) (hu : us.length = n + 1) (hut : Lt32 us) (hin : i + n ≤ N) (hQl : i < Q.length) (hR : val (L.drop (i + (n + 1))) = 0)
    (hus : val us = val (L.drop i) % V) (hq : q = val (L.drop i) / V) (hV : 0 < V) (hI : val L + P32 (i + 1) * val (Q.drop (i + 1)) * V = U0) :
    (L.take i ++ us ++ L.drop (i + (n + 1))).length = N + 1 ∧ Lt32 (L.take i ++ us ++ L.drop (i + (n + 1))) ∧ val (L.take i ++ us ++ L.drop (i + (n + 1))) + P32 i * val ((Q.set i q).drop i) * V = U0 ∧ val ((L.take i ++ us ++ L.drop (i + (n + 1))).drop i) < V := by
  have hti : (L.take i).length = i := by rw [List.length_take]; omega
  refine ⟨by rw [List.length_append, List.length_append, hti, hu, List.length_drop]; omega, ((hLt.take i).append hut).append (hLt.drop _), ?_, ?_⟩
  · rw [add_front_val _ _ _ hR, set_drop hQl, val]
    exact div_step (by omega) hus hq hI
  · have hd : (L.take i ++ us ++ L.drop (i + (n + 1))).drop i = us ++ L.drop (i + (n + 1)) := by
      rw [List.append_assoc, List.drop_append_of_le_length (by omega), List.drop_of_length_le (by omega), List.nil_append]
    rw [hd, val_append, hR, Nat.mul_zero, Nat.add_zero, hus]
    exact Nat.mod_lt _ hV

end Go.Proofs.YthiogjpjkdnbjaaGreatDoor
