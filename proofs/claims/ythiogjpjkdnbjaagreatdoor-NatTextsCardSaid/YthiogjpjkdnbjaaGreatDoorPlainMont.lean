/-
  Plain facts on Montgomery's product and on inverses modulo 2^32. No program in sight.
-/
import Derived.Test.YthiogjpjkdnbjaaGreatDoorPlainPow
namespace Go.Proofs.YthiogjpjkdnbjaaGreatDoor

/-! ### the inverse of an odd number -/

/-- How many bits of the inverse are right after k rounds. -/
def invBits (k : Nat) : Nat := min 32 (3 * 2 ^ k)

theorem odd_square (m : Nat) (h : m % 2 = 1) : ((2 : Int) ^ invBits 0) ∣ ((m : Int) * m - 1) := by
  have e : (2 : Int) ^ invBits 0 = 8 := by rfl
  rw [e]
  obtain ⟨k, rfl⟩ : ∃ k, m = 2 * k + 1 := ⟨m / 2, by omega⟩
  have h2 : ∃ j : Int, (k : Int) * (k + 1) = 2 * j := by
    rcases Nat.mod_two_eq_zero_or_one k with h0 | h0
    · obtain ⟨j, rfl⟩ : ∃ j, k = 2 * j := ⟨k / 2, by omega⟩
      exact ⟨(j : Int) * (2 * j + 1), by simp [Int.mul_assoc]⟩
    · obtain ⟨j, rfl⟩ : ∃ j, k = 2 * j + 1 := ⟨k / 2, by omega⟩
      refine ⟨(2 * (j : Int) + 1) * (j + 1), ?_⟩
      simp only [Int.natCast_add, Int.natCast_mul, Int.cast_ofNat_Int]
      rw [show (2 * (j : Int) + 1 + 1) = 2 * (j + 1) by omega, Int.mul_left_comm]
  obtain ⟨j, hj⟩ := h2
  refine ⟨j, ?_⟩
  have e3 : (((2 * k + 1 : Nat) : Int)) * ((2 * k + 1 : Nat) : Int) - 1 = 4 * ((k : Int) * (k + 1)) := by
    simp only [Int.natCast_add, Int.natCast_mul, Int.cast_ofNat_Int]
    rw [Int.add_mul, Int.mul_add, Int.mul_add]
    have : 2 * (k : Int) * (2 * k) = 4 * ((k : Int) * k) := by rw [Int.mul_assoc, Int.mul_left_comm (k : Int), ← Int.mul_assoc]; rfl
    rw [Int.mul_add, this, Int.mul_one, Int.mul_one]
    omega
  rw [e3, hj]
  omega

theorem inv_step {m v : Int} {k : Nat} (h : ((2 : Int) ^ invBits k) ∣ (m * v - 1)) :
    ((2 : Int) ^ invBits (k + 1)) ∣ (m * (v * ((2 - m * v % 4294967296) % 4294967296) % 4294967296) - 1) := by
  obtain ⟨c, hc⟩ := h
  have hB : ((2 : Int) ^ invBits (k + 1)) ∣ 4294967296 := by
    have : (4294967296 : Int) = 2 ^ 32 := by rfl
    rw [this]
    exact ⟨2 ^ (32 - invBits (k + 1)), by rw [← Int.pow_add]; congr 1; unfold invBits; omega⟩
  have e1 : ∃ q : Int, v * ((2 - m * v % 4294967296) % 4294967296) % 4294967296 = v * (2 - m * v) + 4294967296 * q := by
    have h1 := Int.emod_add_mul_ediv (m * v) 4294967296
    have h2 := Int.emod_add_mul_ediv (2 - m * v % 4294967296) 4294967296
    have h3 := Int.emod_add_mul_ediv (v * ((2 - m * v % 4294967296) % 4294967296)) 4294967296
    refine ⟨v * (m * v / 4294967296) - v * ((2 - m * v % 4294967296) / 4294967296) - (v * ((2 - m * v % 4294967296) % 4294967296)) / 4294967296, ?_⟩
    generalize m * v / 4294967296 = a at *
    generalize hb : (2 - m * v % 4294967296) / 4294967296 = b at *
    generalize hd : (2 - m * v % 4294967296) % 4294967296 = d at *
    generalize v * d / 4294967296 = g at *
    have h4 : d = 2 - m * v + 4294967296 * a - 4294967296 * b := by omega
    have h5 : v * d = v * (2 - m * v) + 4294967296 * (v * a) - 4294967296 * (v * b) := by
      rw [h4, Int.mul_sub, Int.mul_add, Int.mul_left_comm v 4294967296 a, Int.mul_left_comm v 4294967296 b]
    omega
  obtain ⟨q, hq⟩ := e1
  rw [hq]
  have e2 : m * (v * (2 - m * v) + 4294967296 * q) - 1 = 4294967296 * (m * q) - (m * v - 1) * (m * v - 1) := by
    have : m * (v * (2 - m * v)) = 2 * (m * v) - (m * v) * (m * v) := by
      rw [← Int.mul_assoc, Int.mul_sub, Int.mul_comm (m * v) 2]
    have h6 : (m * v - 1) * (m * v - 1) = (m * v) * (m * v) - 2 * (m * v) + 1 := by
      rw [Int.sub_mul, Int.mul_sub, Int.mul_one, Int.one_mul]; omega
    rw [Int.mul_add, this, Int.mul_left_comm m, h6]
    omega
  rw [e2, hc]
  refine Int.dvd_sub (Int.dvd_trans hB (Int.dvd_mul_right _ _)) ?_
  have e3 : (2 : Int) ^ invBits k * c * (2 ^ invBits k * c) = 2 ^ (invBits k + invBits k) * (c * c) := by
    rw [Int.pow_add, Int.mul_assoc, Int.mul_left_comm c, ← Int.mul_assoc, ← Int.mul_assoc]
  rw [e3]
  refine Int.dvd_trans ?_ (Int.dvd_mul_right _ _)
  refine ⟨2 ^ (invBits k + invBits k - invBits (k + 1)), ?_⟩
  rw [← Int.pow_add]
  congr 1
  unfold invBits
  rw [Nat.pow_succ]
  omega

theorem inv_end {m v : Nat} (h : ((2 : Int) ^ invBits 5) ∣ ((m : Int) * v - 1)) {u : Int} (hu : u = -(v : Int) % 4294967296) : ((m : Int) * u + 1) % 4294967296 = 0 := by
  have e : (2 : Int) ^ invBits 5 = 4294967296 := by rfl
  rw [e] at h
  obtain ⟨c, hc⟩ := h
  have h1 := Int.emod_add_mul_ediv (-(v : Int)) 4294967296
  subst hu
  generalize -(v : Int) / 4294967296 = q at h1
  generalize -(v : Int) % 4294967296 = u at h1
  have h2 : u = -(v : Int) - 4294967296 * q := by omega
  subst h2
  rw [Int.mul_sub, Int.mul_left_comm, Int.mul_neg]
  omega

/-! ### the steps of Montgomery's product -/

theorem mont_in {t : List Nat} {j cy d x z T V : Nat} (hz : t[j]? = some z) (h : val t + P32 j * cy = V + T * d) :
    val (t.set j ((cy + (x * d + z)) % 4294967296)) + P32 (j + 1) * ((cy + (x * d + z)) / 4294967296) = V + (T + P32 j * x) * d := by
  have e := val_set hz ((cy + (x * d + z)) % 4294967296)
  have e2 : P32 j * ((cy + (x * d + z)) % 4294967296) + P32 (j + 1) * ((cy + (x * d + z)) / 4294967296) = P32 j * (cy + (x * d + z)) := by
    rw [P32_succ, Nat.mul_comm 4294967296 (P32 j), Nat.mul_assoc, ← Nat.mul_add, Nat.mod_add_div]
  rw [Nat.mul_add (P32 j), Nat.mul_add (P32 j)] at e2
  rw [Nat.add_mul, Nat.mul_assoc (P32 j)]
  omega

/-- The two digits at the end of the sum. -/
theorem mont_sum {t : List Nat} {n tn t1 cy V : Nat} (hl : t.length = n + 2) (h0 : t[n]? = some tn) (h1 : t[n + 1]? = some t1) (h : val (t.take (n + 1)) + P32 n * cy = V) :
    val ((t.set n ((cy + tn) % 4294967296)).set (n + 1) ((cy + tn) / 4294967296)) = V := by
  have e1 := val_take_succ h0
  have e : (t.set n ((cy + tn) % 4294967296)).set (n + 1) ((cy + tn) / 4294967296) = t.take n ++ [(cy + tn) % 4294967296, (cy + tn) / 4294967296] := by
    have hd : t = t.take n ++ [tn, t1] := by
      conv => lhs; rw [← List.take_append_drop n t, drop_cons h0, drop_cons h1, List.drop_of_length_le (by omega)]
    have hn : (t.take n).length = n := by rw [List.length_take]; omega
    conv => lhs; rw [hd]
    have a1 := set_front (t.take n) [t1] tn ((cy + tn) % 4294967296)
    rw [hn] at a1
    rw [a1]
    have a2 := set_front (t.take n ++ [(cy + tn) % 4294967296]) [] t1 ((cy + tn) / 4294967296)
    rw [List.length_append, hn, List.length_singleton] at a2
    rw [a2]
    simp
  have hn : (t.take n).length = n := by rw [List.length_take]; omega
  rw [e, val_append, hn]
  simp only [val, Nat.mul_zero, Nat.add_zero]
  rw [Nat.mod_add_div, Nat.mul_add]
  omega

theorem mont_out {out S ms : List Nat} {j cy f s m F M : Nat} (ho : out.length + 1 = j) (hs : S[j]? = some s) (hm : ms[j]? = some m) (h : 4294967296 * val out + P32 j * cy = val (S.take j) + f * val (ms.take j)) (hF : F = (cy + (f * m + s)) % 4294967296) (hM : M = (cy + (f * m + s)) / 4294967296) :
    4294967296 * val (out ++ [F]) + P32 (j + 1) * M = val (S.take (j + 1)) + f * val (ms.take (j + 1)) := by
  subst hF hM
  rw [val_take_succ hs, val_take_succ hm, val_snoc]
  have e1 : P32 j = 4294967296 * P32 out.length := by rw [← ho, P32_succ]
  have e2 : 4294967296 * (P32 out.length * ((cy + (f * m + s)) % 4294967296)) + P32 (j + 1) * ((cy + (f * m + s)) / 4294967296) = P32 j * (cy + (f * m + s)) := by
    rw [← Nat.mul_assoc, ← e1, P32_succ, Nat.mul_comm 4294967296 (P32 j), Nat.mul_assoc, ← Nat.mul_add, Nat.mod_add_div]
  rw [Nat.mul_add (P32 j), Nat.mul_add (P32 j)] at e2
  rw [Nat.mul_add 4294967296, Nat.mul_add f, Nat.mul_left_comm f (P32 j) m]
  omega

theorem mont_end {out S ms : List Nat} {n cy f tn t1 : Nat} (ho : out.length + 1 = n) (hl : S.length = n + 2) (h0 : S[n]? = some tn) (h1 : S[n + 1]? = some t1) (hm : ms.length = n) (h : 4294967296 * val out + P32 n * cy = val (S.take n) + f * val (ms.take n)) :
    4294967296 * val (out ++ [(cy + tn) % 4294967296, t1 + (cy + tn) / 4294967296]) = val S + f * val ms := by
  have eS : val S = val (S.take n) + P32 n * (tn + 4294967296 * t1) := by
    have e := val_append (S.take n) (S.drop n)
    rw [List.take_append_drop, drop_cons h0, drop_cons h1, List.drop_of_length_le (by omega), List.length_take, Nat.min_eq_left (by omega)] at e
    simpa [val] using e
  rw [List.take_of_length_le (l := ms) (by omega)] at h
  rw [val_append, eS]
  simp only [val, Nat.mul_zero, Nat.add_zero]
  have e1 : P32 n = 4294967296 * P32 out.length := by rw [← ho, P32_succ]
  have e2 : 4294967296 * (P32 out.length * ((cy + tn) % 4294967296 + 4294967296 * (t1 + (cy + tn) / 4294967296))) = P32 n * (cy + tn) + P32 n * (4294967296 * t1) := by
    rw [← Nat.mul_assoc, ← e1, ← Nat.mul_add]
    congr 1
    omega
  rw [Nat.mul_add 4294967296, e2, Nat.mul_add (P32 n) cy, Nat.mul_add (P32 n) tn]
  omega

/-- The first digit of the second half: the factor makes it 0. -/
theorem mont_start {S ms : List Nat} {s0 m0 inv f k0 : Nat} (hf : f = s0 * inv % 4294967296) (hi : ((m0 : Int) * inv + 1) % 4294967296 = 0) (hk : k0 = (f * m0 + s0) / 4294967296) (hs : S[0]? = some s0) (hm : ms[0]? = some m0) :
    4294967296 * val [] + P32 1 * k0 = val (S.take 1) + f * val (ms.take 1) := by
  rw [val_take_succ hs, val_take_succ hm, List.take_zero, List.take_zero, P32_zero, Nat.one_mul, Nat.one_mul]
  simp only [val, Nat.mul_zero, Nat.zero_add]
  have e1 : (f * m0 + s0) % 4294967296 = 0 := by
    obtain ⟨q, hq⟩ : ∃ q, s0 * inv = f + 4294967296 * q := ⟨s0 * inv / 4294967296, by rw [hf]; omega⟩
    obtain ⟨r, hr⟩ : ∃ r, m0 * inv + 1 = 4294967296 * r := by
      refine ⟨(m0 * inv + 1) / 4294967296, ?_⟩
      have : ((m0 * inv + 1 : Nat) : Int) % 4294967296 = 0 := by simpa using hi
      omega
    have e2 : f * m0 + s0 + 4294967296 * (q * m0) = 4294967296 * (s0 * r) := by
      have e3 : (f + 4294967296 * q) * m0 + s0 = s0 * (m0 * inv + 1) := by
        rw [← hq, Nat.mul_add, Nat.mul_one, Nat.mul_assoc, Nat.mul_comm inv m0]
      rw [hr, Nat.add_mul, Nat.mul_assoc, Nat.mul_left_comm s0] at e3
      omega
    omega
  have e4 : P32 1 = 4294967296 := rfl
  rw [e4, hk]
  omega

theorem mont_set {out S : List Nat} {j x v : Nat} (ho : out.length + 1 = j) (hx : S[j - 1]? = some x) : (out ++ S.drop (j - 1)).set (j - 1) v = (out ++ [v]) ++ S.drop j := by
  rw [drop_cons hx]
  have := set_front out (S.drop (j - 1 + 1)) x v
  rw [show out.length = j - 1 by omega, show j - 1 + 1 = j by omega] at this
  rw [show j - 1 + 1 = j by omega, this]

theorem mont_get {out S : List Nat} {j i x : Nat} (ho : out.length + 1 = j) (hi : j - 1 ≤ i) (hx : S[i]? = some x) : (out ++ S.drop (j - 1))[i]? = some x := by
  rw [List.getElem?_append_right (by omega), List.getElem?_drop, show j - 1 + (i - out.length) = i by omega]
  exact hx

theorem mont_last {out S : List Nat} {n a b x tn t1 : Nat} (ho : out.length + 1 = n) (hl : S.length = n + 2) (hx : S[n - 1]? = some x) (h0 : S[n]? = some tn) (h1 : S[n + 1]? = some t1) :
    ((out ++ S.drop (n - 1)).set (n - 1) a).set n b = out ++ [a, b] ++ [t1] := by
  rw [mont_set ho hx, drop_cons h0, drop_cons h1, List.drop_of_length_le (by omega)]
  have := set_front (out ++ [a]) [t1] tn b
  rw [List.length_append, List.length_singleton, ho] at this
  rw [this]
  simp

/-- A round of the product. -/
theorem mont_round {T T' X d f M Q Y : Nat} {i : Nat} (h : T * P32 i = X * Y + Q * M) (h2 : 4294967296 * T' = T + X * d + f * M) (hQ : Q < P32 i) (hf : f < 4294967296) :
    T' * P32 (i + 1) = X * (Y + P32 i * d) + (Q + P32 i * f) * M ∧ Q + P32 i * f < P32 (i + 1) := by
  constructor
  · have e : T' * P32 (i + 1) = (T + X * d + f * M) * P32 i := by rw [← h2, P32_succ, ← Nat.mul_assoc, Nat.mul_comm T']
    have e2 : X * d * P32 i = X * (P32 i * d) := by rw [Nat.mul_assoc, Nat.mul_comm d]
    have e3 : f * M * P32 i = P32 i * f * M := by rw [Nat.mul_comm, Nat.mul_assoc]
    rw [e, Nat.add_mul, Nat.add_mul, h, Nat.mul_add, Nat.add_mul, e2, e3]
    omega
  · have : P32 i * f + P32 i ≤ P32 i * 4294967296 := by rw [← Nat.mul_succ]; exact Nat.mul_le_mul_left _ hf
    rw [P32_succ, Nat.mul_comm 4294967296]
    omega

theorem mont_bound {T X M Q Y P : Nat} (h : T * P = X * Y + Q * M) (hQ : Q < P) (hY : Y < P) (hX : X < M) : T < 2 * M := by
  rcases Nat.lt_or_ge T (2 * M) with h1 | h1
  · exact h1
  · exfalso
    have h2 : 2 * M * P ≤ T * P := Nat.mul_le_mul_right _ h1
    have h3 : X * Y ≤ M * Y := Nat.mul_le_mul_right _ (by omega)
    have h4 : M * Y + M ≤ M * P := by rw [← Nat.mul_succ]; exact Nat.mul_le_mul_left _ hY
    have h5 : Q * M + M ≤ P * M := by rw [← Nat.succ_mul]; exact Nat.mul_le_mul_right _ hQ
    rw [Nat.mul_assoc, Nat.mul_comm M P] at h2
    rw [Nat.mul_comm M P] at h4
    omega

/-- The result of Montgomery's product. -/
theorem mont_res {T X M Q Y P R : Nat} (h : T * P = X * Y + Q * M) (hR : R = T ∨ R + M = T) : R * P % M = X * Y % M := by
  rcases hR with rfl | hR
  · rw [h, Nat.add_mul_mod_self_right]
  · have e : (R + M) * P = X * Y + Q * M := by rw [hR]; exact h
    rw [Nat.add_mul] at e
    have e2 : (R * P + M * P) % M = (X * Y + Q * M) % M := by rw [e]
    rw [Nat.add_mul_mod_self_left, Nat.add_mul_mod_self_right] at e2
    exact e2

/-! ### cancelling a factor that has no common divisor with the modulus -/
theorem mod_cancel {a b c m : Nat} (hc : Nat.Coprime c m) (h : a * c % m = b * c % m) : a % m = b % m := by
  have key : ∀ x y : Nat, y ≤ x → x * c % m = y * c % m → x % m = y % m := by
    intro x y hle h1
    have h2 : m ∣ (x - y) * c := by
      rw [Nat.sub_mul]
      exact Nat.dvd_of_mod_eq_zero (Nat.sub_mod_eq_zero_of_mod_eq h1)
    have h3 : m ∣ x - y := (Nat.Coprime.symm hc).dvd_of_dvd_mul_right h2
    obtain ⟨k, hk⟩ := h3
    rw [show x = y + m * k by omega, Nat.add_mul_mod_self_left]
  rcases Nat.le_total b a with h1 | h1
  · exact key a b h1 h
  · exact (key b a h1 h.symm).symm

end Go.Proofs.YthiogjpjkdnbjaaGreatDoor
