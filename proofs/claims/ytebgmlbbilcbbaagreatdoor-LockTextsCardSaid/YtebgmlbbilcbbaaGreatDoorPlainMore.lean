/- Joined by a program: PlainPrime, PlainSha, PlainDelay, PlainTxt, PlainLock, PlainConv, PlainBox, PlainLocked, PlainWork. -/
import Derived.Laws.BitsAllLaws
import Derived.Test.YtebgmlbbilcbbaaGreatDoorPlainAll
import Derived.Lib.AtoiAll
import Derived.Lib.SplitLaws
namespace Go.Proofs.YtebgmlbbilcbbaaGreatDoor

/-- A power modulo m, by squaring. -/
def pm (m : Nat) : Nat → Nat → Nat → Nat
  | 0, _, _ => 1 % m
  | f + 1, b, e => if e = 0 then 1 % m else if e % 2 = 1 then pm m f (b * b % m) (e / 2) * b % m else pm m f (b * b % m) (e / 2)

theorem pm_eq (m : Nat) : ∀ f b e, e < 2 ^ f → pm m f b e = b ^ e % m := by
  intro f
  induction f with
  | zero =>
    intro b e he
    have : e = 0 := by simpa using he
    subst this
    simp [pm]
  | succ f ih =>
    intro b e he
    unfold pm
    have hlt : e / 2 < 2 ^ f := by rw [Nat.pow_succ] at he; omega
    have hsq : ∀ k, (b * b % m) ^ k % m = b ^ (2 * k) % m := fun k => by
      rw [← Nat.pow_mod, Nat.pow_mul, Nat.pow_two]
    by_cases h0 : e = 0
    · subst h0; simp
    · rw [if_neg h0]
      by_cases h1 : e % 2 = 1
      · rw [if_pos h1, ih _ _ hlt, hsq, Nat.mod_mul_mod, ← Nat.pow_succ]
        congr 2
        omega
      · rw [if_neg h1, ih _ _ hlt, hsq]
        congr 2
        omega

/-- A number whose divisors are 1 and itself. -/
def Pr (n : Nat) : Prop := 1 < n ∧ ∀ d, d ∣ n → d = 1 ∨ d = n

theorem pr_small {n : Nat} (h : 1 < n) (hd : ∀ d, d < n → d ∣ n → d = 1) : Pr n := ⟨h, fun d h1 => by
  rcases Nat.lt_or_ge d n with h2 | h2
  · exact .inl (hd d h2 h1)
  · exact .inr (Nat.le_antisymm (Nat.le_of_dvd (by omega) h1) h2)⟩

theorem pow_one_mod {g n e : Nat} (hn : 1 < n) (h : g ^ e % n = 1) (k : Nat) : g ^ (e * k) % n = 1 := by
  rw [Nat.pow_mul, Nat.pow_mod, h, Nat.one_pow, Nat.mod_eq_of_lt hn]
theorem pow_rest {g n i j : Nat} (hn : 1 < n) (hi : g ^ i % n = 1) (hj : g ^ j % n = 1) : g ^ (i % j) % n = 1 := by
  have e : g ^ i = g ^ (j * (i / j)) * g ^ (i % j) := by rw [← Nat.pow_add, Nat.div_add_mod]
  rw [e, Nat.mul_mod, pow_one_mod hn hj, Nat.one_mul, Nat.mod_mod] at hi
  exact hi
theorem pow_gcd {g n : Nat} (hn : 1 < n) (i j : Nat) (hi : g ^ i % n = 1) (hj : g ^ j % n = 1) : g ^ (Nat.gcd i j) % n = 1 := by
  induction i, j using Nat.gcd.induction with
  | H0 j => rwa [Nat.gcd_zero_left]
  | H1 i j h0 ih =>
    rw [Nat.gcd_rec]
    exact ih (pow_rest hn hj hi) hi

theorem prod_factor : ∀ (qs : List Nat) (k : Nat), (∀ q ∈ qs, Pr q) → 1 < k → k ∣ qs.foldr (· * ·) 1 → ∃ q ∈ qs, q ∣ k := by
  intro qs
  induction qs with
  | nil =>
    intro k _ hk hd
    have : k = 1 := Nat.dvd_one.1 hd
    omega
  | cons q qs ih =>
    intro k hp hk hd
    have hq := hp q (List.mem_cons_self ..)
    rcases hq.2 _ (Nat.gcd_dvd_right k q) with h1 | h1
    · have hd' : k ∣ q * qs.foldr (· * ·) 1 := hd
      obtain ⟨r, hr, hrk⟩ := ih k (fun r hr => hp r (List.mem_cons_of_mem _ hr)) hk (Nat.Coprime.dvd_of_dvd_mul_left h1 hd')
      exact ⟨r, List.mem_cons_of_mem _ hr, hrk⟩
    · exact ⟨q, List.mem_cons_self .., h1 ▸ Nat.gcd_dvd_left k q⟩

theorem order_all {g n N : Nat} (qs : List Nat) (hn : 1 < n) (hN : N = qs.foldr (· * ·) 1) (hN0 : 0 < N) (hp : ∀ q ∈ qs, Pr q) (h1 : g ^ N % n = 1) (hq : ∀ q ∈ qs, g ^ (N / q) % n ≠ 1)
    (i : Nat) (hi0 : 0 < i) (hi : i < N) : g ^ i % n ≠ 1 := by
  intro h
  have hd := pow_gcd hn i N h h1
  have hdN := Nat.gcd_dvd_right i N
  have hdi : Nat.gcd i N ≤ i := Nat.gcd_le_left _ hi0
  generalize Nat.gcd i N = d at hd hdN hdi
  obtain ⟨k, hk⟩ := hdN
  have hd0 : 0 < d := by
    rcases Nat.eq_zero_or_pos d with e | e
    · subst e; rw [Nat.zero_mul] at hk; omega
    · exact e
  have hk1 : 1 < k := by
    rcases Nat.lt_or_ge 1 k with e | e
    · exact e
    · have : d * k ≤ d * 1 := Nat.mul_le_mul_left _ e
      omega
  obtain ⟨q, hqm, r, hr⟩ := prod_factor qs k hp hk1 (by rw [← hN, hk]; exact Nat.dvd_mul_left _ _)
  have hq0 : 0 < q := by have := (hp q hqm).1; omega
  apply hq q hqm
  have : N / q = d * r := by
    rw [hk, hr, show d * (q * r) = q * (d * r) by rw [← Nat.mul_assoc, Nat.mul_comm d q, Nat.mul_assoc]]
    exact Nat.mul_div_cancel_left _ hq0
  rw [this]
  exact pow_one_mod hn hd r

theorem few_below : ∀ (m : Nat) (l : List Nat), l.Nodup → (∀ x ∈ l, x < m) → l.length ≤ m := by
  intro m
  induction m with
  | zero =>
    intro l _ h
    cases l with
    | nil => exact Nat.le_refl _
    | cons x l => exact absurd (h x (List.mem_cons_self ..)) (by omega)
  | succ m ih =>
    intro l hn h
    have h1 := ih (l.erase m) (hn.erase m) (fun x hx => by
      have h2 := (List.Nodup.mem_erase_iff hn).1 hx
      have h3 := h x h2.2
      have h4 := h2.1
      omega)
    have h2 : l.length ≤ (l.erase m).length + 1 := by
      rw [List.length_erase]
      split <;> omega
    omega

theorem reached {g n : Nat} (hn : 1 < n) (h1 : g ^ (n - 1) % n = 1) (hord : ∀ i, 0 < i → i < n - 1 → g ^ i % n ≠ 1) (a : Nat) (ha : 0 < a) (han : a < n) : ∃ k, g ^ k % n = a := by
  apply Classical.byContradiction
  intro hno
  have hno' : ∀ k, g ^ k % n ≠ a := fun k hk => hno ⟨k, hk⟩
  have hinv : ∀ i, i ≤ n - 1 → g ^ i % n * (g ^ (n - 1 - i) % n) % n = 1 := fun i hi => by
    rw [← Nat.mul_mod, ← Nat.pow_add, show i + (n - 1 - i) = n - 1 by omega]; exact h1
  have hinj : ∀ i j, i < j → j < n - 1 → g ^ i % n ≠ g ^ j % n := by
    intro i j hij hj h
    have e := hinv i (by omega)
    rw [h] at e
    have e2 : g ^ (j - i) % n = 1 := by
      have e3 : g ^ j % n * (g ^ (n - 1 - i) % n) % n = g ^ (j - i) % n := by
        rw [← Nat.mul_mod, ← Nat.pow_add, show j + (n - 1 - i) = (j - i) + (n - 1) by omega, Nat.pow_add, Nat.mul_mod, h1, Nat.mul_one, Nat.mod_mod]
      rw [← e3]; exact e
    exact hord (j - i) (by omega) (by omega) e2
  have hz : ∀ i, i < n - 1 → g ^ i % n ≠ 0 := fun i hi h0 => by
    have e := hinv i (by omega)
    rw [h0, Nat.zero_mul, Nat.zero_mod] at e
    omega
  have hl := few_below n (0 :: a :: (List.range (n - 1)).map fun i => g ^ i % n) (by
    rw [List.nodup_cons, List.nodup_cons]
    refine ⟨fun h => ?_, fun h => ?_, ?_⟩
    · rcases List.mem_cons.1 h with h | h
      · omega
      · obtain ⟨i, hi, he⟩ := List.mem_map.1 h
        exact hz i (List.mem_range.1 hi) he
    · obtain ⟨i, hi, he⟩ := List.mem_map.1 h
      exact hno' i he
    · rw [List.nodup_iff_pairwise_ne, List.pairwise_map]
      refine List.Pairwise.imp_of_mem ?_ (List.pairwise_lt_range (n := n - 1))
      intro i j _ hj hij
      exact hinj i j hij (List.mem_range.1 hj)) (by
    intro x hx
    rcases List.mem_cons.1 hx with h | h
    · omega
    · rcases List.mem_cons.1 h with h | h
      · omega
      · obtain ⟨i, hi, he⟩ := List.mem_map.1 h
        rw [← he]
        exact Nat.mod_lt _ (by omega))
  simp only [List.length_cons, List.length_map, List.length_range] at hl
  omega

/-- Lucas' test: all powers with the exponent n - 1 are 1, and n is prime. -/
theorem lucas {g n : Nat} (qs : List Nat) (hn : 2 < n) (hN : n - 1 = qs.foldr (· * ·) 1) (hp : ∀ q ∈ qs, Pr q) (h1 : g ^ (n - 1) % n = 1) (hq : ∀ q ∈ qs, g ^ ((n - 1) / q) % n ≠ 1) :
    (∀ a, a % n ≠ 0 → a ^ (n - 1) % n = 1) ∧ Pr n := by
  have hord := order_all qs (by omega) hN (by omega) hp h1 hq
  have hall : ∀ a, a % n ≠ 0 → a ^ (n - 1) % n = 1 := fun a ha => by
    obtain ⟨k, hk⟩ := reached (by omega) h1 hord (a % n) (by omega) (Nat.mod_lt _ (by omega))
    rw [Nat.pow_mod, ← hk, ← Nat.pow_mod, ← Nat.pow_mul, Nat.mul_comm, pow_one_mod (by omega) h1]
  refine ⟨hall, by omega, fun d hd => ?_⟩
  rcases Nat.lt_or_ge d n with h | h
  · left
    have hd0 : 0 < d := Nat.pos_of_dvd_of_pos hd (by omega)
    have e := hall d (by rw [Nat.mod_eq_of_lt h]; omega)
    have e2 : d ∣ d ^ (n - 1) % n := by
      refine (Nat.dvd_mod_iff hd).2 ?_
      rw [show n - 1 = (n - 2) + 1 by omega, Nat.pow_succ]
      exact Nat.dvd_mul_left _ _
    rw [e] at e2
    exact Nat.dvd_one.1 e2
  · exact .inr (Nat.le_antisymm (Nat.le_of_dvd (by omega) hd) h)

theorem lucas_pm {g n : Nat} (qs : List Nat) (hn : 2 < n) (hl : n < 2 ^ 64) (hN : n - 1 = qs.foldr (· * ·) 1) (hp : ∀ q ∈ qs, Pr q) (h1 : pm n 64 g (n - 1) = 1) (hq : ∀ q ∈ qs, pm n 64 g ((n - 1) / q) ≠ 1) :
    (∀ a, a % n ≠ 0 → a ^ (n - 1) % n = 1) ∧ Pr n :=
  lucas qs hn hN hp (by rw [← pm_eq n 64 g _ (by omega)]; exact h1) (fun q h => by
    have : (n - 1) / q ≤ n - 1 := Nat.div_le_self _ _
    rw [← pm_eq n 64 g _ (by omega)]; exact hq q h)

theorem pr_2 : Pr 2 := pr_small (by decide) (by decide +kernel)
theorem pr_3 : Pr 3 := pr_small (by decide) (by decide +kernel)
theorem pr_5 : Pr 5 := pr_small (by decide) (by decide +kernel)
theorem pr_7 : Pr 7 := pr_small (by decide) (by decide +kernel)
theorem pr_11 : Pr 11 := pr_small (by decide) (by decide +kernel)
theorem pr_19 : Pr 19 := pr_small (by decide) (by decide +kernel)
theorem pr_53 : Pr 53 := pr_small (by decide) (by decide +kernel)
theorem all_449 (n : Nat) (h : n = 449) : (∀ a, a % n ≠ 0 → a ^ (n - 1) % n = 1) ∧ Pr n := by
  refine lucas_pm (g := 3) (n := n) [2, 2, 2, 2, 2, 2, 7] (by subst h; decide +kernel) (by subst h; decide +kernel) (by subst h; decide +kernel) ?_ (by subst h; decide +kernel) (by subst h; decide +kernel)
  simp only [List.forall_mem_cons, List.not_mem_nil, false_imp_iff, implies_true, and_true]
  exact ⟨pr_2, pr_2, pr_2, pr_2, pr_2, pr_2, pr_7⟩
theorem pr_449 : Pr 449 := (all_449 _ rfl).2
theorem all_95189 (n : Nat) (h : n = 95189) : (∀ a, a % n ≠ 0 → a ^ (n - 1) % n = 1) ∧ Pr n := by
  refine lucas_pm (g := 2) (n := n) [2, 2, 53, 449] (by subst h; decide +kernel) (by subst h; decide +kernel) (by subst h; decide +kernel) ?_ (by subst h; decide +kernel) (by subst h; decide +kernel)
  simp only [List.forall_mem_cons, List.not_mem_nil, false_imp_iff, implies_true, and_true]
  exact ⟨pr_2, pr_2, pr_53, pr_449⟩
theorem pr_95189 : Pr 95189 := (all_95189 _ rfl).2
theorem all_2835870689 (n : Nat) (h : n = 2835870689) : (∀ a, a % n ≠ 0 → a ^ (n - 1) % n = 1) ∧ Pr n := by
  refine lucas_pm (g := 6) (n := n) [2, 2, 2, 2, 2, 7, 7, 19, 95189] (by subst h; decide +kernel) (by subst h; decide +kernel) (by subst h; decide +kernel) ?_ (by subst h; decide +kernel) (by subst h; decide +kernel)
  simp only [List.forall_mem_cons, List.not_mem_nil, false_imp_iff, implies_true, and_true]
  exact ⟨pr_2, pr_2, pr_2, pr_2, pr_2, pr_7, pr_7, pr_19, pr_95189⟩
theorem pr_2835870689 : Pr 2835870689 := (all_2835870689 _ rfl).2
theorem all_5671741379 (n : Nat) (h : n = 5671741379) : (∀ a, a % n ≠ 0 → a ^ (n - 1) % n = 1) ∧ Pr n := by
  refine lucas_pm (g := 2) (n := n) [2, 2835870689] (by subst h; decide +kernel) (by subst h; decide +kernel) (by subst h; decide +kernel) ?_ (by subst h; decide +kernel) (by subst h; decide +kernel)
  simp only [List.forall_mem_cons, List.not_mem_nil, false_imp_iff, implies_true, and_true]
  exact ⟨pr_2, pr_2835870689⟩
theorem pr_5671741379 : Pr 5671741379 := (all_5671741379 _ rfl).2
theorem all_751 (n : Nat) (h : n = 751) : (∀ a, a % n ≠ 0 → a ^ (n - 1) % n = 1) ∧ Pr n := by
  refine lucas_pm (g := 3) (n := n) [2, 3, 5, 5, 5] (by subst h; decide +kernel) (by subst h; decide +kernel) (by subst h; decide +kernel) ?_ (by subst h; decide +kernel) (by subst h; decide +kernel)
  simp only [List.forall_mem_cons, List.not_mem_nil, false_imp_iff, implies_true, and_true]
  exact ⟨pr_2, pr_3, pr_5, pr_5, pr_5⟩
theorem pr_751 : Pr 751 := (all_751 _ rfl).2
theorem all_1409 (n : Nat) (h : n = 1409) : (∀ a, a % n ≠ 0 → a ^ (n - 1) % n = 1) ∧ Pr n := by
  refine lucas_pm (g := 3) (n := n) [2, 2, 2, 2, 2, 2, 2, 11] (by subst h; decide +kernel) (by subst h; decide +kernel) (by subst h; decide +kernel) ?_ (by subst h; decide +kernel) (by subst h; decide +kernel)
  simp only [List.forall_mem_cons, List.not_mem_nil, false_imp_iff, implies_true, and_true]
  exact ⟨pr_2, pr_2, pr_2, pr_2, pr_2, pr_2, pr_2, pr_11⟩
theorem pr_1409 : Pr 1409 := (all_1409 _ rfl).2
theorem all_2819 (n : Nat) (h : n = 2819) : (∀ a, a % n ≠ 0 → a ^ (n - 1) % n = 1) ∧ Pr n := by
  refine lucas_pm (g := 2) (n := n) [2, 1409] (by subst h; decide +kernel) (by subst h; decide +kernel) (by subst h; decide +kernel) ?_ (by subst h; decide +kernel) (by subst h; decide +kernel)
  simp only [List.forall_mem_cons, List.not_mem_nil, false_imp_iff, implies_true, and_true]
  exact ⟨pr_2, pr_1409⟩
theorem pr_2819 : Pr 2819 := (all_2819 _ rfl).2
theorem all_5639 (n : Nat) (h : n = 5639) : (∀ a, a % n ≠ 0 → a ^ (n - 1) % n = 1) ∧ Pr n := by
  refine lucas_pm (g := 7) (n := n) [2, 2819] (by subst h; decide +kernel) (by subst h; decide +kernel) (by subst h; decide +kernel) ?_ (by subst h; decide +kernel) (by subst h; decide +kernel)
  simp only [List.forall_mem_cons, List.not_mem_nil, false_imp_iff, implies_true, and_true]
  exact ⟨pr_2, pr_2819⟩
theorem pr_5639 : Pr 5639 := (all_5639 _ rfl).2
theorem all_8469779 (n : Nat) (h : n = 8469779) : (∀ a, a % n ≠ 0 → a ^ (n - 1) % n = 1) ∧ Pr n := by
  refine lucas_pm (g := 2) (n := n) [2, 751, 5639] (by subst h; decide +kernel) (by subst h; decide +kernel) (by subst h; decide +kernel) ?_ (by subst h; decide +kernel) (by subst h; decide +kernel)
  simp only [List.forall_mem_cons, List.not_mem_nil, false_imp_iff, implies_true, and_true]
  exact ⟨pr_2, pr_751, pr_5639⟩
theorem pr_8469779 : Pr 8469779 := (all_8469779 _ rfl).2
theorem all_288230376151711447 (n : Nat) (h : n = 288230376151711447) : (∀ a, a % n ≠ 0 → a ^ (n - 1) % n = 1) ∧ Pr n := by
  refine lucas_pm (g := 6) (n := n) [2, 3, 8469779, 5671741379] (by subst h; decide +kernel) (by subst h; decide +kernel) (by subst h; decide +kernel) ?_ (by subst h; decide +kernel) (by subst h; decide +kernel)
  simp only [List.forall_mem_cons, List.not_mem_nil, false_imp_iff, implies_true, and_true]
  exact ⟨pr_2, pr_3, pr_8469779, pr_5671741379⟩
theorem pr_288230376151711447 : Pr 288230376151711447 := (all_288230376151711447 _ rfl).2
theorem all_1152921504606845789 (n : Nat) (h : n = 1152921504606845789) : (∀ a, a % n ≠ 0 → a ^ (n - 1) % n = 1) ∧ Pr n := by
  refine lucas_pm (g := 2) (n := n) [2, 2, 288230376151711447] (by subst h; decide +kernel) (by subst h; decide +kernel) (by subst h; decide +kernel) ?_ (by subst h; decide +kernel) (by subst h; decide +kernel)
  simp only [List.forall_mem_cons, List.not_mem_nil, false_imp_iff, implies_true, and_true]
  exact ⟨pr_2, pr_2, pr_288230376151711447⟩
theorem pr_1152921504606845789 : Pr 1152921504606845789 := (all_1152921504606845789 _ rfl).2
theorem all_2305843009213691579 (n : Nat) (h : n = 2305843009213691579) : (∀ a, a % n ≠ 0 → a ^ (n - 1) % n = 1) ∧ Pr n := by
  refine lucas_pm (g := 2) (n := n) [2, 1152921504606845789] (by subst h; decide +kernel) (by subst h; decide +kernel) (by subst h; decide +kernel) ?_ (by subst h; decide +kernel) (by subst h; decide +kernel)
  simp only [List.forall_mem_cons, List.not_mem_nil, false_imp_iff, implies_true, and_true]
  exact ⟨pr_2, pr_1152921504606845789⟩
theorem pr_2305843009213691579 : Pr 2305843009213691579 := (all_2305843009213691579 _ rfl).2

end Go.Proofs.YtebgmlbbilcbbaaGreatDoor
namespace Go.Proofs.YtebgmlbbilcbbaaGreatDoor

/-- A word turned to the right. -/
def rotr (n x : Nat) : Nat := x / 2 ^ n ||| x * 2 ^ (32 - n) % 4294967296
def bS0 (x : Nat) : Nat := (rotr 2 x ^^^ rotr 13 x) ^^^ rotr 22 x
def bS1 (x : Nat) : Nat := (rotr 6 x ^^^ rotr 11 x) ^^^ rotr 25 x
def sS0 (x : Nat) : Nat := (rotr 7 x ^^^ rotr 18 x) ^^^ x / 8
def sS1 (x : Nat) : Nat := (rotr 17 x ^^^ rotr 19 x) ^^^ x / 1024
def chS (e f g : Nat) : Nat := (e &&& f) ^^^ ((4294967295 - e) &&& g)
def majS (a b c : Nat) : Nat := ((a &&& b) ^^^ (a &&& c)) ^^^ (b &&& c)
/-- The words k(0) to k(63). -/
def kS : List Nat := [
  0x428a2f98, 0x71374491, 0xb5c0fbcf, 0xe9b5dba5, 0x3956c25b, 0x59f111f1, 0x923f82a4, 0xab1c5ed5,
  0xd807aa98, 0x12835b01, 0x243185be, 0x550c7dc3, 0x72be5d74, 0x80deb1fe, 0x9bdc06a7, 0xc19bf174,
  0xe49b69c1, 0xefbe4786, 0x0fc19dc6, 0x240ca1cc, 0x2de92c6f, 0x4a7484aa, 0x5cb0a9dc, 0x76f988da,
  0x983e5152, 0xa831c66d, 0xb00327c8, 0xbf597fc7, 0xc6e00bf3, 0xd5a79147, 0x06ca6351, 0x14292967,
  0x27b70a85, 0x2e1b2138, 0x4d2c6dfc, 0x53380d13, 0x650a7354, 0x766a0abb, 0x81c2c92e, 0x92722c85,
  0xa2bfe8a1, 0xa81a664b, 0xc24b8b70, 0xc76c51a3, 0xd192e819, 0xd6990624, 0xf40e3585, 0x106aa070,
  0x19a4c116, 0x1e376c08, 0x2748774c, 0x34b0bcb5, 0x391c0cb3, 0x4ed8aa4a, 0x5b9cca4f, 0x682e6ff3,
  0x748f82ee, 0x78a5636f, 0x84c87814, 0x8cc70208, 0x90befffa, 0xa4506ceb, 0xbef9a3f7, 0xc67178f2]
/-- The words that the state begins with. -/
def ivS : List Nat := [0x6a09e667, 0xbb67ae85, 0x3c6ef372, 0xa54ff53a, 0x510e527f, 0x9b05688c, 0x1f83d9ab, 0x5be0cd19]
/-- A byte of a list. -/
def byteS (b : List UInt8) (i : Nat) : Nat := (b.getD i 0).toNat
/-- A word of a block. -/
def wordS (b : List UInt8) (i : Nat) : Nat := byteS b (4 * i) * 16777216 + byteS b (4 * i + 1) * 65536 + byteS b (4 * i + 2) * 256 + byteS b (4 * i + 3)
/-- The word behind words. -/
def nextS (l : List Nat) (i : Nat) : Nat := (l.getD (i - 16) 0 + sS0 (l.getD (i - 15) 0) + l.getD (i - 7) 0 + sS1 (l.getD (i - 2) 0)) % 4294967296
/-- The first words of the schedule of a block. -/
def schedS (b : List UInt8) : Nat → List Nat
  | 0 => []
  | i + 1 => schedS b i ++ [if i < 16 then wordS b i else nextS (schedS b i) i]
/-- The eight words of a step. -/
structure St where
  a : Nat
  b : Nat
  c : Nat
  d : Nat
  e : Nat
  f : Nat
  g : Nat
  h : Nat
def St.t (s : St) (k w : Nat) : Nat := (s.h + bS1 s.e + chS s.e s.f s.g + k + w) % 4294967296
def St.u (s : St) : Nat := (bS0 s.a + majS s.a s.b s.c) % 4294967296
/-- A step. -/
def St.step (s : St) (k w : Nat) : St := ⟨(s.t k w + s.u) % 4294967296, s.a, s.b, s.c, (s.d + s.t k w) % 4294967296, s.e, s.f, s.g⟩
/-- The first steps. -/
def stepsS (ws : List Nat) (s : St) : Nat → St
  | 0 => s
  | i + 1 => (stepsS ws s i).step (kS.getD i 0) (ws.getD i 0)
def St.list (s : St) : List Nat := [s.a, s.b, s.c, s.d, s.e, s.f, s.g, s.h]
def St.of (l : List Nat) : St := ⟨l.getD 0 0, l.getD 1 0, l.getD 2 0, l.getD 3 0, l.getD 4 0, l.getD 5 0, l.getD 6 0, l.getD 7 0⟩
/-- A state after a block. -/
def mixS (l : List Nat) (b : List UInt8) : List Nat := List.zipWith (fun x y => (x + y) % 4294967296) l (stepsS (schedS b 64) (St.of l) 64).list
/-- The state after blocks of a message. -/
def stateS (t : List UInt8) : Nat → List Nat
  | 0 => ivS
  | k + 1 => mixS (stateS t k) ((t.drop (64 * k)).take 64)
/-- The eight bytes of a number. -/
def lenS (n : Nat) : List UInt8 := (List.range 8).map fun i => UInt8.ofNat (n / 2 ^ (56 - 8 * i) % 256)
/-- How many bytes 0 stand behind the first byte behind a string. -/
def zerosS (n : Nat) : Nat := (119 - n % 64) % 64
/-- The message of a string. -/
def padS (l : List UInt8) : List UInt8 := l ++ ([128] ++ List.replicate (zerosS l.length) 0 ++ lenS (l.length * 8))
/-- The bytes of a state. -/
def bytesS (l : List Nat) : List UInt8 := (List.range 32).map fun i => UInt8.ofNat (l.getD (i / 4) 0 / 2 ^ (24 - i % 4 * 8) % 256)
/-- The hash of a string. -/
def shaS (l : List UInt8) : List UInt8 := bytesS (stateS (padS l) ((l.length + 72) / 64))


theorem xor32 {a b : Nat} (ha : a < 4294967296) (hb : b < 4294967296) : a ^^^ b < 4294967296 := Nat.xor_lt_two_pow (n := 32) ha hb
theorem and32 {a b : Nat} (ha : a < 4294967296) : a &&& b < 4294967296 := Nat.lt_of_le_of_lt Nat.and_le_left ha
theorem or32 {a b : Nat} (ha : a < 4294967296) (hb : b < 4294967296) : a ||| b < 4294967296 := Nat.or_lt_two_pow (n := 32) ha hb
theorem div32 {a : Nat} (n : Nat) (ha : a < 4294967296) : a / n < 4294967296 := Nat.lt_of_le_of_lt (Nat.div_le_self _ _) ha
theorem mod32 (a : Nat) : a % 4294967296 < 4294967296 := Nat.mod_lt _ (by decide)
theorem rotr_lt {x : Nat} (n : Nat) (hx : x < 4294967296) : rotr n x < 4294967296 := or32 (div32 _ hx) (mod32 _)
theorem bS0_lt {x : Nat} (h : x < 4294967296) : bS0 x < 4294967296 := xor32 (xor32 (rotr_lt _ h) (rotr_lt _ h)) (rotr_lt _ h)
theorem bS1_lt {x : Nat} (h : x < 4294967296) : bS1 x < 4294967296 := xor32 (xor32 (rotr_lt _ h) (rotr_lt _ h)) (rotr_lt _ h)
theorem sS0_lt {x : Nat} (h : x < 4294967296) : sS0 x < 4294967296 := xor32 (xor32 (rotr_lt _ h) (rotr_lt _ h)) (div32 _ h)
theorem sS1_lt {x : Nat} (h : x < 4294967296) : sS1 x < 4294967296 := xor32 (xor32 (rotr_lt _ h) (rotr_lt _ h)) (div32 _ h)
theorem chS_lt {e f : Nat} (g : Nat) (he : e < 4294967296) : chS e f g < 4294967296 := xor32 (and32 he) (and32 (by omega))
theorem majS_lt {a b : Nat} (c : Nat) (ha : a < 4294967296) (hb : b < 4294967296) : majS a b c < 4294967296 := xor32 (xor32 (and32 ha) (and32 ha)) (and32 hb)
theorem byteS_lt (b : List UInt8) (i : Nat) : byteS b i < 256 := UInt8.toNat_lt _

/-- The first bytes of a word. -/
def pwS (b : List UInt8) (j : Nat) : Nat → Nat
  | 0 => 0
  | m + 1 => pwS b j m * 256 + byteS b (4 * j + m)
theorem pwS_lt (b : List UInt8) (j : Nat) : ∀ m, pwS b j m < 256 ^ m
  | 0 => Nat.one_pos
  | m + 1 => by
    have h1 := pwS_lt b j m
    have h2 := byteS_lt b (4 * j + m)
    have h3 : (pwS b j m + 1) * 256 ≤ 256 ^ m * 256 := Nat.mul_le_mul_right _ h1
    rw [Nat.pow_succ]
    show pwS b j m * 256 + byteS b (4 * j + m) < _
    omega
theorem pwS_four (b : List UInt8) (j : Nat) : pwS b j 4 = wordS b j := by
  unfold wordS
  simp only [pwS, Nat.add_zero]
  omega
theorem wordS_lt (b : List UInt8) (j : Nat) : wordS b j < 4294967296 := by rw [← pwS_four]; exact pwS_lt b j 4
/-- The words as they fill. -/
def fillS (b : List UInt8) (k : Nat) : List Nat := (List.range 64).map fun j => pwS b j (min 4 (k - 4 * j))
theorem fillS_len (b : List UInt8) (k : Nat) : (fillS b k).length = 64 := by simp [fillS]
theorem fillS_get (b : List UInt8) (k : Nat) {j : Nat} (hj : j < 64) : (fillS b k)[j]? = some (pwS b j (min 4 (k - 4 * j))) := by
  simp [fillS, hj]
theorem fillS_cur (b : List UInt8) {k : Nat} (hk : k < 64) : (fillS b k)[k / 4]? = some (pwS b (k / 4) (k % 4)) := by
  rw [fillS_get b k (by omega), show min 4 (k - 4 * (k / 4)) = k % 4 by omega]
theorem fillS_set (b : List UInt8) (k : Nat) : (fillS b k).set (k / 4) (pwS b (k / 4) (k % 4) * 256 + byteS b k) = fillS b (k + 1) := by
  apply List.ext_getElem?
  intro j
  rcases Nat.lt_or_ge j 64 with hj | hj
  · rw [List.getElem?_set, fillS_get b (k + 1) hj]
    by_cases e : k / 4 = j
    · subst e
      rw [if_pos rfl, if_pos (by rw [fillS_len]; exact hj), show min 4 (k + 1 - 4 * (k / 4)) = k % 4 + 1 by omega]
      show _ = some (pwS b (k / 4) (k % 4) * 256 + byteS b (4 * (k / 4) + k % 4))
      rw [Nat.div_add_mod]
    · rw [if_neg e, fillS_get b k hj, show min 4 (k + 1 - 4 * j) = min 4 (k - 4 * j) by omega]
  · rw [List.getElem?_eq_none (by rw [List.length_set, fillS_len]; exact hj), List.getElem?_eq_none (by rw [fillS_len]; exact hj)]
theorem fillS_zero (b : List UInt8) : fillS b 0 = List.replicate 64 0 := by
  apply List.ext_getElem?
  intro j
  rcases Nat.lt_or_ge j 64 with hj | hj
  · rw [fillS_get b 0 hj, List.getElem?_replicate, if_pos hj, Nat.zero_sub]; rfl
  · rw [List.getElem?_eq_none (by rw [fillS_len]; exact hj), List.getElem?_eq_none (by simpa using hj)]
theorem schedS_len (b : List UInt8) : ∀ i, (schedS b i).length = i
  | 0 => rfl
  | i + 1 => by simp [schedS, schedS_len b i]
theorem schedS_lt (b : List UInt8) : ∀ i, ∀ x ∈ schedS b i, x < 4294967296
  | 0, x, h => by cases h
  | i + 1, x, h => by
    rcases List.mem_append.1 h with h | h
    · exact schedS_lt b i x h
    · obtain rfl := List.mem_singleton.1 h
      split
      · exact wordS_lt _ _
      · exact mod32 _
theorem schedS_get (b : List UInt8) : ∀ (n i : Nat), i ≤ n → ∀ j, j < i → (schedS b n)[j]? = (schedS b i)[j]?
  | 0, i, h, j, hj => by omega
  | n + 1, i, h, j, hj => by
    rcases Nat.lt_or_ge n i with h1 | h1
    · obtain rfl : i = n + 1 := by omega
      rfl
    · rw [← schedS_get b n i h1 j hj]
      exact List.getElem?_append_left (by rw [schedS_len]; omega)
theorem getD_lt {l : List Nat} (h : ∀ x ∈ l, x < 4294967296) (j : Nat) : l.getD j 0 < 4294967296 := by
  rw [List.getD_eq_getElem?_getD]
  cases e : l[j]? with
  | none => decide
  | some x => exact h x (List.mem_of_getElem? e)
theorem fillS_end (b : List UInt8) : fillS b 64 = schedS b 16 ++ List.replicate 48 0 := by
  apply List.ext_getElem?
  intro j
  rcases Nat.lt_or_ge j 16 with hj | hj
  · rw [fillS_get b 64 (by omega), List.getElem?_append_left (by rw [schedS_len]; exact hj), schedS_get b 16 (j + 1) (by omega) j (by omega), show min 4 (64 - 4 * j) = 4 by omega, pwS_four]
    show _ = (schedS b j ++ [if j < 16 then wordS b j else nextS (schedS b j) j])[j]?
    rw [List.getElem?_append_right (by rw [schedS_len]; exact Nat.le_refl _), schedS_len, Nat.sub_self, if_pos hj]; rfl
  · rcases Nat.lt_or_ge j 64 with h64 | h64
    · rw [fillS_get b 64 h64, List.getElem?_append_right (by rw [schedS_len]; exact hj), schedS_len, List.getElem?_replicate, if_pos (by omega), show min 4 (64 - 4 * j) = 0 by omega]; rfl
    · rw [List.getElem?_eq_none (by rw [fillS_len]; exact h64), List.getElem?_eq_none (by rw [List.length_append, schedS_len]; simp; omega)]
theorem sched_set (b : List UInt8) {i : Nat} (h0 : 16 ≤ i) (hi : i < 64) : (schedS b i ++ List.replicate (64 - i) 0).set i (nextS (schedS b i) i) = schedS b (i + 1) ++ List.replicate (64 - (i + 1)) 0 := by
  rw [List.set_append_right _ _ (by rw [schedS_len]; exact Nat.le_refl _), schedS_len, Nat.sub_self, show 64 - i = (64 - (i + 1)) + 1 by omega, List.replicate_succ, List.set_cons_zero]
  show _ = (schedS b i ++ [if i < 16 then wordS b i else nextS (schedS b i) i]) ++ _
  rw [if_neg (by omega), List.append_assoc]; rfl
theorem sched_word (b : List UInt8) {i : Nat} (hi : i < 16) : (schedS b i ++ List.replicate (64 - i) 0).set i (wordS b i) = schedS b (i + 1) ++ List.replicate (64 - (i + 1)) 0 := by
  rw [List.set_append_right _ _ (by rw [schedS_len]; exact Nat.le_refl _), schedS_len, Nat.sub_self, show 64 - i = (64 - (i + 1)) + 1 by omega, List.replicate_succ, List.set_cons_zero]
  show _ = (schedS b i ++ [if i < 16 then wordS b i else nextS (schedS b i) i]) ++ _
  rw [if_pos hi, List.append_assoc]; rfl
theorem sched_at (b : List UInt8) {i j n : Nat} (hj : j < i) : (schedS b i ++ List.replicate n 0)[j]? = some ((schedS b i).getD j 0) := by
  rw [List.getElem?_append_left (by rw [schedS_len]; exact hj), List.getD_eq_getElem?_getD, List.getElem?_eq_getElem (by rw [schedS_len]; exact hj)]; rfl

/-- Words of a state. -/
structure St.Ok (s : St) : Prop where
  a : s.a < 4294967296
  b : s.b < 4294967296
  c : s.c < 4294967296
  d : s.d < 4294967296
  e : s.e < 4294967296
  f : s.f < 4294967296
  g : s.g < 4294967296
  h : s.h < 4294967296
theorem St.Ok.step {s : St} (h : s.Ok) (k w : Nat) : (s.step k w).Ok := ⟨mod32 _, h.a, h.b, h.c, mod32 _, h.e, h.f, h.g⟩
theorem steps_ok {s : St} (h : s.Ok) (ws : List Nat) : ∀ i, (stepsS ws s i).Ok
  | 0 => h
  | i + 1 => (steps_ok h ws i).step _ _
/-- A state as a list of eight words. -/
structure Eight (l : List Nat) : Prop where
  len : l.length = 8
  lt : ∀ x ∈ l, x < 4294967296
theorem Eight.of {l : List Nat} (h : Eight l) : (St.of l).Ok := ⟨getD_lt h.lt _, getD_lt h.lt _, getD_lt h.lt _, getD_lt h.lt _, getD_lt h.lt _, getD_lt h.lt _, getD_lt h.lt _, getD_lt h.lt _⟩
theorem mixS_eight {l : List Nat} (h : Eight l) (b : List UInt8) : Eight (mixS l b) := by
  refine ⟨by unfold mixS; rw [List.length_zipWith, h.len]; rfl, fun x hx => ?_⟩
  unfold mixS at hx
  obtain ⟨i, hi⟩ := List.mem_iff_getElem?.1 hx
  rw [List.getElem?_zipWith] at hi
  split at hi
  · obtain rfl := Option.some.inj hi
    exact mod32 _
  · cases hi
theorem ivS_eight : Eight ivS := ⟨rfl, fun x hx => by
  simp only [ivS, List.mem_cons, List.not_mem_nil, or_false] at hx
  omega⟩
theorem stateS_eight (t : List UInt8) : ∀ k, Eight (stateS t k)
  | 0 => ivS_eight
  | k + 1 => mixS_eight (stateS_eight t k) _
theorem eight_of {l : List Nat} (h : Eight l) : ∃ a b c d e f g k : Nat, l = [a, b, c, d, e, f, g, k] ∧ a < 4294967296 ∧ b < 4294967296 ∧ c < 4294967296 ∧ d < 4294967296 ∧ e < 4294967296 ∧ f < 4294967296 ∧ g < 4294967296 ∧ k < 4294967296 := by
  obtain ⟨hl, hlt⟩ := h
  match l, hl with
  | [a, b, c, d, e, f, g, k], _ => exact ⟨a, b, c, d, e, f, g, k, rfl, hlt a (by simp), hlt b (by simp), hlt c (by simp), hlt d (by simp), hlt e (by simp), hlt f (by simp), hlt g (by simp), hlt k (by simp)⟩

/-- The rest behind the whole blocks of a string. -/
def restS (l : List UInt8) : List UInt8 := l.drop (l.length / 64 * 64) ++ ([128] ++ List.replicate (zerosS l.length) 0 ++ lenS (l.length * 8))
theorem lenS_len (n : Nat) : (lenS n).length = 8 := by simp [lenS]
theorem padS_rest (l : List UInt8) : padS l = l.take (l.length / 64 * 64) ++ restS l := by
  unfold padS restS
  rw [← List.append_assoc (List.take _ l) (List.drop _ l), List.take_append_drop]
theorem restS_len (l : List UInt8) : (restS l).length = 64 * ((l.length + 72) / 64) - l.length / 64 * 64 := by
  unfold restS zerosS
  simp only [List.length_append, List.length_drop, List.length_cons, List.length_nil, List.length_replicate, lenS_len]
  omega
theorem padS_len (l : List UInt8) : (padS l).length = 64 * ((l.length + 72) / 64) := by
  rw [padS_rest, List.length_append, restS_len, List.length_take]
  omega
/-- A whole block of a string is a block of its message. -/
theorem pad_block {l : List UInt8} {k : Nat} (h : 64 * (k + 1) ≤ l.length) : ((padS l).drop (64 * k)).take 64 = (l.drop (64 * k)).take 64 := by
  unfold padS
  rw [List.drop_append_of_le_length (by omega), List.take_append_of_le_length (by rw [List.length_drop]; omega)]
/-- A block of the rest is a block of the message. -/
theorem pad_rest (l : List UInt8) (j : Nat) : ((padS l).drop (64 * (l.length / 64 + j))).take 64 = ((restS l).drop (64 * j)).take 64 := by
  rw [padS_rest, List.drop_append, List.drop_of_length_le (by rw [List.length_take]; omega), List.nil_append, List.length_take, show 64 * (l.length / 64 + j) - min (l.length / 64 * 64) l.length = 64 * j by omega]

theorem sha_len (l : List UInt8) : (shaS l).length = 32 := by simp [shaS, bytesS]
/-- The bytes of a state as they fill. -/
def outS (l : List Nat) (k : Nat) : List UInt8 := (bytesS l).take k ++ List.replicate (32 - k) 0
theorem bytesS_len (l : List Nat) : (bytesS l).length = 32 := by simp [bytesS]
theorem bytesS_get (l : List Nat) {k : Nat} (hk : k < 32) : (bytesS l)[k]? = some (UInt8.ofNat (l.getD (k / 4) 0 / 2 ^ (24 - k % 4 * 8) % 256)) := by
  simp [bytesS, hk]
theorem outS_zero (l : List Nat) : outS l 0 = List.replicate 32 0 := by simp [outS]
theorem outS_end (l : List Nat) : outS l 32 = bytesS l := by unfold outS; rw [List.take_of_length_le (by rw [bytesS_len]; exact Nat.le_refl _)]; simp
theorem outS_set (l : List Nat) {k : Nat} (hk : k < 32) : (outS l k).set k (UInt8.ofNat (l.getD (k / 4) 0 / 2 ^ (24 - k % 4 * 8) % 256)) = outS l (k + 1) := by
  have h1 : ((bytesS l).take k).length = k := by rw [List.length_take, bytesS_len]; omega
  unfold outS
  rw [List.set_append_right _ _ (by omega), h1, Nat.sub_self, show 32 - k = (32 - (k + 1)) + 1 by omega, List.replicate_succ, List.set_cons_zero, List.take_add_one, bytesS_get l hk]
  simp

end Go.Proofs.YtebgmlbbilcbbaaGreatDoor
namespace Go.Proofs.YtebgmlbbilcbbaaGreatDoor
open Go.Lib (decDigits)

/-- The modulus of the delay. -/
def modN : Nat := 0x8a00b0daa28744d6a4c3c624546e4b59
/-- The modulus as a string. -/
def modS : ByteArray := ⟨#[0x8a, 0x00, 0xb0, 0xda, 0xa2, 0x87, 0x44, 0xd6, 0xa4, 0xc3, 0xc6, 0x24, 0x54, 0x6e, 0x4b, 0x59]⟩
theorem sval_modS : sval modS = modN := by decide +kernel
theorem modN_pos : 0 < modN := by decide
theorem modN_lt : modN < P8 16 := by decide +kernel
theorem mod_lt (n : Nat) : n % modN < modN := Nat.mod_lt _ modN_pos
/-- What a number leads to after some squarings. -/
def ranN (n : Nat) : Nat → Nat
  | 0 => n % modN
  | t + 1 => ranN n t * ranN n t % modN
theorem ranN_lt (n : Nat) : ∀ t, ranN n t < modN
  | 0 => mod_lt _
  | _ + 1 => mod_lt _
theorem ranN_mod (n : Nat) : ∀ t, ranN (n % modN) t = ranN n t
  | 0 => Nat.mod_mod _ _
  | t + 1 => by show ranN (n % modN) t * ranN (n % modN) t % modN = _; rw [ranN_mod n t]; rfl
theorem sq_mod (n : Nat) : (n % modN) * (n % modN) % modN = n * n % modN := (Nat.mul_mod n n modN).symm
/-- The text of a challenge. -/
def chalL (x y m t : Nat) : List UInt8 := [100, 101, 108, 97, 121, 47] ++ (decDigits x ++ 47 :: (decDigits y ++ 47 :: (decDigits m ++ 47 :: decDigits t)))
/-- A challenge. -/
def chalN (x y m t : Nat) : Nat := bv ((shaS (chalL x y m t)).take 8)
/-- The two numbers of a halving. -/
def halveN (x y m t : Nat) : Nat × Nat := (m * pm modN 64 x (chalN x y m t) % modN, y * pm modN 64 m (chalN x y m t) % modN)
/-- Halvings, one after the other. -/
def chainN : Nat → Nat → Nat → List Nat → Nat × Nat
  | x, y, _, [] => (x, y)
  | x, y, t, m :: ms => chainN (halveN x y m t).1 (halveN x y m t).2 (t / 2) ms
/-- The middles of a proof of 2 ^ n steps. -/
def midsN : Nat → Nat → Nat → Nat → List Nat
  | 0, _, _, _ => []
  | n + 1, x, y, t => ranN x (t / 2) :: midsN n (halveN x y (ranN x (t / 2)) t).1 (halveN x y (ranN x (t / 2)) t).2 (t / 2)
/-- The logarithm of a number of steps. -/
def logT (t : Int) : Option Nat := (List.range 21).find? fun n => t == ((2 ^ n : Nat) : Int)
/-- Whether a string is a reduced number. -/
def redB (s : ByteArray) : Bool := rightL s.data.toList && decide (sval s < modN)
where rightL (l : List UInt8) : Bool := l.head? != some 0
/-- Whether middles prove an end. -/
def verB (x y : ByteArray) (t : Int) (ms : List ByteArray) : Bool :=
  match logT t with
  | none => false
  | some n => redB x && redB y && ms.all redB && decide (ms.length = n) && decide ((chainN (sval x) (sval y) (2 ^ n) (ms.map sval)).1 * (chainN (sval x) (sval y) (2 ^ n) (ms.map sval)).1 % modN = (chainN (sval x) (sval y) (2 ^ n) (ms.map sval)).2)

theorem chal_lt (x y m t : Nat) : chalN x y m t < 2 ^ 64 := by
  have h := bv_lt ((shaS (chalL x y m t)).take 8)
  rw [List.length_take, sha_len] at h
  exact h
theorem halve_eq (x y m t : Nat) : halveN x y m t = (m * (x ^ chalN x y m t % modN) % modN, y * (m ^ chalN x y m t % modN) % modN) := by
  unfold halveN
  rw [pm_eq _ _ _ _ (chal_lt x y m t), pm_eq _ _ _ _ (chal_lt x y m t)]
theorem halve_lt (x y m t : Nat) : (halveN x y m t).1 < modN ∧ (halveN x y m t).2 < modN := ⟨mod_lt _, mod_lt _⟩

end Go.Proofs.YtebgmlbbilcbbaaGreatDoor
namespace Go.Proofs.YtebgmlbbilcbbaaGreatDoor
open Go.Lib (decDigits)

theorem dec_self : ∀ (k : Nat) (l : List UInt8), l.length = k → goodD l = true → decDigits (dval l) = l
  | 0, l, hk, h => by
    obtain rfl := List.eq_nil_of_length_eq_zero hk
    simp [goodD] at h
  | k + 1, l, hk, h => by
    obtain ⟨t, b, rfl⟩ : ∃ t b, l = t ++ [b] := ⟨l.dropLast, l.getLast (by intro e; subst e; simp at hk), (List.dropLast_concat_getLast _).symm⟩
    have hk' : t.length = k := by simpa using hk
    have ha : (t ++ [b]).all isD = true := by unfold goodD at h; simp only [Bool.and_eq_true] at h; exact h.2
    rw [List.all_append, Bool.and_eq_true] at ha
    have hb : isD b = true := by simpa using ha.2
    obtain ⟨h1, h2⟩ := isD_iff.1 hb
    rw [dval_snoc]
    have hbyte : UInt8.ofNat (48 + (b.toNat - 48)) = b := by
      rw [show 48 + (b.toNat - 48) = b.toNat by omega]; simp
    cases t with
    | nil =>
      rw [dval_nil, Nat.zero_mul, Nat.zero_add, Lib.decDigits_one (by omega), hbyte]; rfl
    | cons c t =>
      have hc : c ≠ 48 := by
        unfold goodD at h
        simp at h
        exact h.1
      have hg : goodD (c :: t) = true := by
        unfold goodD
        simp only [Bool.and_eq_true]
        exact ⟨⟨by simp, by simp [hc]⟩, ha.1⟩
      have ih := dec_self k (c :: t) hk' hg
      have hpos : 0 < dval (c :: t) := by
        rcases Nat.eq_zero_or_pos (dval (c :: t)) with h0 | h0
        · rw [h0, Lib.decDigits_one (by omega)] at ih
          have := (List.cons.inj ih).1
          exact absurd this.symm (by simpa using hc)
        · exact h0
      rw [dec_ten (by omega), show (dval (c :: t) * 10 + (b.toNat - 48)) / 10 = dval (c :: t) by omega, show (dval (c :: t) * 10 + (b.toNat - 48)) % 10 = b.toNat - 48 by omega, hbyte, ih]

theorem good_dec (n : Nat) : goodD (decDigits n) = true := dec_good n
theorem dec_inj {m n : Nat} (h : decDigits m = decDigits n) : m = n := by rw [← dec_val m, h, dec_val]

end Go.Proofs.YtebgmlbbilcbbaaGreatDoor
namespace Go.Proofs.YtebgmlbbilcbbaaGreatDoor
open Go.Lib (decDigits)

/-- An integer in decimal. -/
def decI (z : Int) : List UInt8 := if z < 0 then 45 :: decDigits z.natAbs else decDigits z.natAbs
/-- A hexadecimal digit. -/
def hexD (n : Nat) : UInt8 := if n < 10 then UInt8.ofNat (48 + n) else UInt8.ofNat (87 + n)
/-- Bytes in hexadecimal. -/
def hexL (l : List UInt8) : List UInt8 := l.flatMap fun b => [hexD (b.toNat / 16), hexD (b.toNat % 16)]
theorem hexD_inj : ∀ m n : Nat, m < 16 → n < 16 → hexD m = hexD n → m = n := by
  have h : ∀ m : Fin 16, ∀ n : Fin 16, hexD m.val = hexD n.val → m.val = n.val := by decide +kernel
  exact fun m n hm hn e => h ⟨m, hm⟩ ⟨n, hn⟩ e
theorem hexL_len (l : List UInt8) : (hexL l).length = 2 * l.length := by
  induction l with
  | nil => rfl
  | cons b l ih => show (hexD (b.toNat / 16) :: hexD (b.toNat % 16) :: hexL l).length = _; simp only [List.length_cons, ih]; omega
theorem hexL_cons (b : UInt8) (l : List UInt8) : hexL (b :: l) = hexD (b.toNat / 16) :: hexD (b.toNat % 16) :: hexL l := rfl
theorem hexL_inj : ∀ a b : List UInt8, hexL a = hexL b → a = b
  | [], [], _ => rfl
  | [], y :: b, h => by rw [hexL_cons] at h; cases h
  | x :: a, [], h => by rw [hexL_cons] at h; cases h
  | x :: a, y :: b, h => by
    rw [hexL_cons, hexL_cons] at h
    simp only [List.cons.injEq] at h
    have hx := UInt8.toNat_lt x
    have hy := UInt8.toNat_lt y
    have h1 := hexD_inj _ _ (by omega) (by omega) h.1
    have h2 := hexD_inj _ _ (by omega) (by omega) h.2.1
    have e : x = y := UInt8.toNat_inj.1 (by omega)
    rw [e, hexL_inj a b h.2.2]
/-- Two texts up to a mark that does not occur in them. -/
theorem cut_mark {m : UInt8} : ∀ {a b x y : List UInt8}, m ∉ a → m ∉ b → a ++ m :: x = b ++ m :: y → a = b ∧ x = y
  | [], [], x, y, _, _, h => ⟨rfl, by simpa using h⟩
  | [], c :: b, x, y, _, hb, h => by simp at h; exact absurd (by rw [h.1]; simp) hb
  | c :: a, [], x, y, ha, _, h => by simp at h; exact absurd (by rw [h.1]; simp) ha
  | c :: a, d :: b, x, y, ha, hb, h => by
    simp only [List.cons_append, List.cons.injEq] at h
    have := cut_mark (fun k => ha (List.mem_cons_of_mem _ k)) (fun k => hb (List.mem_cons_of_mem _ k)) h.2
    exact ⟨by rw [h.1, this.1], this.2⟩
theorem dec_no {m : UInt8} (hm : isD m = false) (n : Nat) : m ∉ decDigits n := fun h => by
  have := List.all_eq_true.1 (dec_all n) m h
  rw [hm] at this; cases this
theorem decI_no {m : UInt8} (hm : isD m = false) (h45 : m ≠ 45) (z : Int) : m ∉ decI z := by
  unfold decI
  split
  · intro h
    rcases List.mem_cons.1 h with h | h
    · exact h45 h
    · exact dec_no hm _ h
  · exact dec_no hm _
theorem dec_inj' {m n : Nat} (h : decDigits m = decDigits n) : m = n := by rw [← dec_val m, h, dec_val]
theorem decI_inj {a b : Int} (h : decI a = decI b) : a = b := by
  have hd : ∀ n : Nat, (decDigits n).head? ≠ some 45 := fun n e => by
    cases k : decDigits n with
    | nil => rw [k] at e; cases e
    | cons x t =>
      rw [k] at e
      have hx : x = 45 := Option.some.inj e
      exact dec_no (m := 45) (by decide) n (by rw [k, hx]; simp)
  unfold decI at h
  split at h <;> split at h
  · have := dec_inj' (List.cons.inj h).2; omega
  · exact absurd (by rw [← h]; rfl) (hd b.natAbs)
  · exact absurd (by rw [h]; rfl) (hd a.natAbs)
  · have := dec_inj' h; omega
/-- The part of an input for one secret. -/
def partL (s : List UInt8) : List UInt8 := 47 :: (decDigits s.length ++ 58 :: s)
/-- An input. -/
def inputL (round : Int) (h : List UInt8) (ss : List (List UInt8)) : List UInt8 := [114, 111, 117, 110, 100, 47] ++ (decI round ++ 47 :: (hexL h ++ ss.flatMap partL))
theorem parts_inj : ∀ a b : List (List UInt8), a.flatMap partL = b.flatMap partL → a = b
  | [], [], _ => rfl
  | [], s :: b, h => by simp [partL] at h
  | s :: a, [], h => by simp [partL] at h
  | s :: a, t :: b, h => by
    rw [List.flatMap_cons, List.flatMap_cons] at h
    simp only [partL, List.cons_append, List.append_assoc, List.cons.injEq, true_and] at h
    obtain ⟨h1, h2⟩ := cut_mark (dec_no (m := 58) (by decide) _) (dec_no (m := 58) (by decide) _) h
    have hl := dec_inj' h1
    obtain ⟨h3, h4⟩ := List.append_inj h2 hl
    rw [h3, parts_inj a b h4]
theorem inputL_inj {r r' : Int} {h h' : List UInt8} {ss ss' : List (List UInt8)} (hl : h.length = h'.length) (e : inputL r h ss = inputL r' h' ss') : r = r' ∧ h = h' ∧ ss = ss' := by
  unfold inputL at e
  have e1 := List.append_cancel_left e
  obtain ⟨h1, h2⟩ := cut_mark (decI_no (m := 47) (by decide) (by decide) _) (decI_no (m := 47) (by decide) (by decide) _) e1
  obtain ⟨h3, h4⟩ := List.append_inj h2 (by rw [hexL_len, hexL_len, hl])
  exact ⟨decI_inj h1, hexL_inj _ _ h3, parts_inj _ _ h4⟩
/-- A commitment as a text. -/
def commitL (who : Int) (h box : List UInt8) : List UInt8 := [99, 111, 109, 109, 105, 116, 32] ++ (decI who ++ 32 :: (hexL h ++ 32 :: hexL box))
theorem hexD_ne : ∀ n, n < 16 → hexD n ≠ 32 ∧ hexD n ≠ 10 := by
  have h : ∀ n : Fin 16, hexD n.val ≠ 32 ∧ hexD n.val ≠ 10 := by decide +kernel
  exact fun n hn => h ⟨n, hn⟩
theorem hex_no {m : UInt8} (hm : m = 32 ∨ m = 10) (l : List UInt8) : m ∉ hexL l := fun h => by
  obtain ⟨b, _, hb⟩ := List.mem_flatMap.1 h
  have hx := UInt8.toNat_lt b
  have h1 := hexD_ne (b.toNat / 16) (by omega)
  have h2 := hexD_ne (b.toNat % 16) (by omega)
  simp only [List.mem_cons, List.not_mem_nil, or_false] at hb
  rcases hm with rfl | rfl <;> rcases hb with hb | hb
  · exact h1.1 hb.symm
  · exact h2.1 hb.symm
  · exact h1.2 hb.symm
  · exact h2.2 hb.symm
theorem commitL_inj {a a' : Int} {h h' b b' : List UInt8} (e : commitL a h b = commitL a' h' b') : a = a' ∧ h = h' ∧ b = b' := by
  unfold commitL at e
  have e1 := List.append_cancel_left e
  obtain ⟨h1, h2⟩ := cut_mark (decI_no (m := 32) (by decide) (by decide) _) (decI_no (m := 32) (by decide) (by decide) _) e1
  obtain ⟨h3, h4⟩ := cut_mark (hex_no (.inl rfl) _) (hex_no (.inl rfl) _) h2
  exact ⟨decI_inj h1, hexL_inj _ _ h3, hexL_inj _ _ h4⟩

end Go.Proofs.YtebgmlbbilcbbaaGreatDoor
namespace Go.Proofs.YtebgmlbbilcbbaaGreatDoor

/-- What the other side adds. -/
def liesN (lies : List UInt8) (k : Nat) : Nat :=
  match lies[k % lies.length]? with
  | none => 0
  | some b => if b.toNat % 3 = 0 then 0 else b.toNat
theorem lies_le (lies : List UInt8) (k : Nat) : liesN lies k ≤ 255 := by
  unfold liesN
  split
  · omega
  · rename_i b _
    have := UInt8.toNat_lt b
    split <;> omega
/-- The state of a dispute: what the sides say of the end, as numbers. -/
structure Disp (x N l h f a b : Nat) (first : Bool) : Prop where
  lt : l < h
  le : h ≤ N
  from_ : f = ranN x l
  mine : (if first then a else b) = ranN x h
  other : (if first then b else a) ≠ ranN x h
theorem Disp.start (x N c : Nat) (first : Bool) (hN : 0 < N) (hc : c ≠ ranN x N) : Disp x N 0 N (ranN x 0) (if first then ranN x N else c) (if first then c else ranN x N) first := by
  refine ⟨hN, Nat.le_refl _, rfl, ?_, ?_⟩ <;> cases first <;> simp [hc]
/-- The middle is agreed on. -/
theorem Disp.low {x N l h f a b m s u : Nat} {first : Bool} (H : Disp x N l h f a b first) (_h1 : l < m) (h2 : m < h) (hs : (if first then s else u) = ranN x m) (e : s = u) : Disp x N m h s a b first := by
  refine ⟨h2, H.le, ?_, H.mine, H.other⟩
  subst e
  rw [← hs]
  split <;> rfl
/-- It is not. -/
theorem Disp.high {x N l h f a b m s u : Nat} {first : Bool} (H : Disp x N l h f a b first) (h1 : l < m) (h2 : m < h) (hs : (if first then s else u) = ranN x m) (e : s ≠ u) : Disp x N l m f s u first := by
  refine ⟨h1, by have := H.le; omega, H.from_, hs, ?_⟩
  rw [← hs]
  cases first
  · simpa using e
  · simpa using fun k => e k.symm
/-- The end of a dispute. -/
theorem Disp.verdict {x N l h f a b : Nat} {first : Bool} (H : Disp x N l h f a b first) (e : h = l + 1) :
    (if a = b then (0 : Int) else if b = f * f % modN then 1 else if a = f * f % modN then 2 else 3) = if first then 2 else 1 := by
  have h1 : f * f % modN = ranN x h := by rw [H.from_, e]; rfl
  rw [h1]
  have hm := H.mine
  have ho := H.other
  cases first
  · simp only [Bool.false_eq_true, if_false] at hm ho ⊢
    rw [if_neg (by rw [hm]; exact ho), if_pos hm]
  · simp only [if_true] at hm ho ⊢
    rw [if_neg (by rw [hm]; exact fun k => ho k.symm), if_neg ho, if_pos hm]
/-- How far a dispute has come after some rounds. -/
theorem disp_half {l h r N : Nat} (h1 : l + 1 < h) (hr : (h - l - 1) * 2 ^ r ≤ N) : (h - (l + (h - l) / 2) - 1) * 2 ^ (r + 1) ≤ N ∧ (l + (h - l) / 2 - l - 1) * 2 ^ (r + 1) ≤ N := by
  have e1 : (h - (l + (h - l) / 2) - 1) * 2 ≤ h - l - 1 := by omega
  have e2 : (l + (h - l) / 2 - l - 1) * 2 ≤ h - l - 1 := by omega
  rw [Nat.pow_succ, Nat.mul_comm (2 ^ r) 2, ← Nat.mul_assoc, ← Nat.mul_assoc]
  exact ⟨Nat.le_trans (Nat.mul_le_mul_right _ e1) hr, Nat.le_trans (Nat.mul_le_mul_right _ e2) hr⟩
theorem disp_bound {l h r : Nat} (h1 : l + 1 < h) (hr : (h - l - 1) * 2 ^ r ≤ 300) : r ≤ 8 := by
  rcases Nat.lt_or_ge 8 r with h2 | h2
  · have := Nat.pow_le_pow_right (n := 2) (by omega) (show 9 ≤ r from h2)
    have e : (2 : Nat) ^ 9 = 512 := by decide
    have h3 : 1 * 2 ^ r ≤ (h - l - 1) * 2 ^ r := Nat.mul_le_mul_right _ (by omega)
    omega
  · exact h2

end Go.Proofs.YtebgmlbbilcbbaaGreatDoor
namespace Go.Proofs.YtebgmlbbilcbbaaGreatDoor
open Go.Lib (decDigits)

/-- A block of a stream. -/
def blockL (seed : List UInt8) (k : Nat) : List UInt8 := shaS (seed ++ 47 :: decDigits k)
theorem block_len (seed : List UInt8) (k : Nat) : (blockL seed k).length = 32 := sha_len _
/-- Blocks, one behind the other. -/
def blocksL (seed : List UInt8) (m : Nat) : List UInt8 := (List.range m).flatMap (blockL seed)
theorem blocks_succ (seed : List UInt8) (m : Nat) : blocksL seed (m + 1) = blocksL seed m ++ blockL seed m := by
  unfold blocksL
  rw [List.range_succ, List.flatMap_append]
  simp
theorem blocks_len (seed : List UInt8) : ∀ m, (blocksL seed m).length = 32 * m
  | 0 => rfl
  | m + 1 => by rw [blocks_succ, List.length_append, blocks_len seed m, block_len]; omega
theorem blocks_get (seed : List UInt8) : ∀ m i, i < 32 * m → (blocksL seed m)[i]? = (blockL seed (i / 32))[i % 32]?
  | 0, i, h => by omega
  | m + 1, i, h => by
    rw [blocks_succ]
    by_cases h1 : i < 32 * m
    · rw [List.getElem?_append_left (by rw [blocks_len]; exact h1), blocks_get seed m i h1]
    · rw [List.getElem?_append_right (by rw [blocks_len]; omega), blocks_len]
      have e1 : i / 32 = m := by omega
      rw [e1, show i - 32 * m = i % 32 by omega]
/-- The first bytes of a stream. -/
def streamL (seed : List UInt8) (n : Nat) : List UInt8 := (blocksL seed ((n + 31) / 32)).take n
theorem stream_len (seed : List UInt8) (n : Nat) : (streamL seed n).length = n := by
  unfold streamL
  rw [List.length_take, blocks_len]; omega
theorem stream_get (seed : List UInt8) (n i : Nat) (h : i < n) : (streamL seed n)[i]? = (blockL seed (i / 32))[i % 32]? := by
  unfold streamL
  rw [List.getElem?_take, if_pos h, blocks_get _ _ _ (by omega)]

/-- Two rows of bytes, combined. -/
def combL (a b : List UInt8) : List UInt8 := List.zipWith (· ^^^ ·) a b
theorem comb_len {a b : List UInt8} (h : b.length = a.length) : (combL a b).length = a.length := by unfold combL; rw [List.length_zipWith, h, Nat.min_self]
theorem comb_back : ∀ {a b : List UInt8}, b.length = a.length → combL (combL a b) b = a
  | [], [], _ => rfl
  | [], _ :: _, h => by simp at h
  | _ :: _, [], h => by simp at h
  | x :: a, y :: b, h => by
    have ih := comb_back (a := a) (b := b) (by simpa using h)
    unfold combL at ih ⊢
    simp only [List.zipWith_cons_cons, ih]
    rw [UInt8.xor_assoc, UInt8.xor_self, UInt8.xor_zero]

/-- The text of a secret. -/
def secretL (who round : Int) (s : List UInt8) : List UInt8 := [115, 101, 99, 114, 101, 116, 47] ++ (decI who ++ 47 :: (decI round ++ 47 :: s))
/-- The hash of a secret. -/
def secretH (who round : Int) (s : List UInt8) : List UInt8 := shaS (secretL who round s)
/-- The text from which the delay of a box begins. -/
def boxL (who round : Int) (h : List UInt8) : List UInt8 := [98, 111, 120, 47] ++ (decI who ++ 47 :: (decI round ++ 47 :: hexL h))
/-- The number at which the delay of a text begins. -/
def startV (l : List UInt8) : Nat := bv (shaS ([115, 116, 97, 114, 116, 47] ++ l)) % modN
/-- The seed of a pad. -/
def seedL (who round : Int) (h : List UInt8) (squares : Nat) : List UInt8 := [112, 97, 100, 47] ++ decDigits (ranN (startV (boxL who round h)) squares)
/-- A pad. -/
def padL (who round : Int) (h : List UInt8) (squares n : Nat) : List UInt8 := streamL (seedL who round h squares) n
theorem pad_len (who round : Int) (h : List UInt8) (squares n : Nat) : (padL who round h squares n).length = n := stream_len _ _
/-- What a box holds. -/
def boxed (who round : Int) (h : List UInt8) (squares : Nat) (s : List UInt8) : List UInt8 := combL s (padL who round h squares s.length)
theorem boxed_len (who round : Int) (h : List UInt8) (squares : Nat) (s : List UInt8) : (boxed who round h squares s).length = s.length := comb_len (pad_len _ _ _ _ _)
theorem boxed_back (who round : Int) (h : List UInt8) (squares : Nat) (s : List UInt8) : boxed who round h squares (boxed who round h squares s) = s := by
  have e := boxed_len who round h squares s
  show combL (boxed who round h squares s) (padL who round h squares (boxed who round h squares s).length) = s
  rw [e]
  exact comb_back (pad_len _ _ _ _ _)

end Go.Proofs.YtebgmlbbilcbbaaGreatDoor
namespace Go.Proofs.YtebgmlbbilcbbaaGreatDoor
open Go.Lib (decDigits)

/-- A commitment. -/
structure Com where
  who : Int
  hash : List UInt8
  box : List UInt8
  deriving Inhabited, DecidableEq
/-- The text of a commitment. -/
def comT (c : Com) : List UInt8 := commitL c.who c.hash c.box
/-- The line of a commitment. -/
def comL (c : Com) : List UInt8 := comT c ++ [10]
/-- The text of a lock. -/
def lockL (round : Int) (l : List Com) : List UInt8 := [108, 111, 99, 107, 47] ++ (decI round ++ 47 :: l.flatMap comL)
/-- A list of commitments, ordered. -/
def sortL (l : List Com) : List Com := l.mergeSort (fun a b => decide (a.who ≤ b.who))
/-- Nobody is there twice. -/
def Single (l : List Com) : Prop := (l.map Com.who).Nodup
theorem single_perm {l m : List Com} (h : l.Perm m) : Single l ↔ Single m := (h.map Com.who).nodup_iff
theorem sortL_perm (l : List Com) : (sortL l).Perm l := List.mergeSort_perm l _
theorem sortL_le (l : List Com) : (sortL l).Pairwise (fun a b => a.who ≤ b.who) := by
  have h := List.pairwise_mergeSort (le := fun a b : Com => decide (a.who ≤ b.who)) (fun a b c h1 h2 => by simp at *; omega) (fun a b => by simp; omega) l
  exact h.imp (fun h => by simpa using h)
theorem single_eq {l : List Com} (h : Single l) {a b : Com} (ha : a ∈ l) (hb : b ∈ l) (e : a.who = b.who) : a = b := by
  induction l with
  | nil => cases ha
  | cons x l ih =>
    have h' : x.who ∉ l.map Com.who ∧ (l.map Com.who).Nodup := by
      unfold Single at h
      rwa [List.map_cons, List.nodup_cons] at h
    rcases List.mem_cons.1 ha with e1 | ha
    · rcases List.mem_cons.1 hb with e2 | hb
      · rw [e1, e2]
      · exact absurd (by rw [← e1, e]; exact List.mem_map_of_mem hb) h'.1
    · rcases List.mem_cons.1 hb with e2 | hb
      · exact absurd (by rw [← e2, ← e]; exact List.mem_map_of_mem ha) h'.1
      · exact ih h'.2 ha hb
/-- There is one order. -/
theorem sortL_one {l m : List Com} (hl : Single l) (hp : m.Perm l) (hs : m.Pairwise (fun a b => a.who ≤ b.who)) : m = sortL l := by
  refine List.Perm.eq_of_pairwise (le := fun a b => a.who ≤ b.who) (fun a b ha hb h1 h2 => ?_) hs (sortL_le l) (hp.trans (sortL_perm l).symm)
  exact single_eq hl (hp.mem_iff.1 ha) ((sortL_perm l).mem_iff.1 hb) (by omega)
theorem sortL_of_perm {l m : List Com} (hl : Single l) (h : m.Perm l) : sortL m = sortL l := sortL_one hl ((sortL_perm m).trans h) (sortL_le m)
theorem single_lt {l : List Com} (h : l.Pairwise (fun a b => a.who < b.who)) : Single l := by
  unfold Single
  rw [List.nodup_iff_pairwise_ne, List.pairwise_map]
  exact h.imp (fun h e => by omega)
/-- Neighbours that differ, in an ordered list. -/
theorem near_lt : ∀ {l : List Com}, l.Pairwise (fun a b => a.who ≤ b.who) → (∀ (i : Nat) (a b : Com), l[i]? = some a → l[i + 1]? = some b → a.who ≠ b.who) → l.Pairwise (fun a b => a.who < b.who)
  | [], _, _ => List.Pairwise.nil
  | [x], _, _ => by simp
  | x :: y :: l, h, hn => by
    have h' := List.pairwise_cons.1 h
    have ih := near_lt h'.2 (fun i a b ha hb => hn (i + 1) a b (by simpa using ha) (by simpa using hb))
    refine List.pairwise_cons.2 ⟨fun b hb => ?_, ih⟩
    have h1 : x.who ≠ y.who := hn 0 x y rfl rfl
    have h2 := h'.1 y (by simp)
    rcases List.mem_cons.1 hb with rfl | hb
    · omega
    · have := (List.pairwise_cons.1 ih).1 b hb
      omega
theorem single_iff {l : List Com} : Single l ↔ ∀ (k i : Nat) (a b : Com), k < i → l[k]? = some a → l[i]? = some b → a.who ≠ b.who := by
  unfold Single
  rw [List.nodup_iff_pairwise_ne, List.pairwise_map, List.pairwise_iff_getElem]
  constructor
  · intro h k i a b hk ha hb
    obtain ⟨k1, e1⟩ := List.getElem?_eq_some_iff.1 ha
    obtain ⟨k2, e2⟩ := List.getElem?_eq_some_iff.1 hb
    rw [← e1, ← e2]
    exact h k i k1 k2 hk
  · intro h k i h1 h2 hk
    exact h k i _ _ hk (List.getElem?_eq_getElem h1) (List.getElem?_eq_getElem h2)
theorem near_eq {l : List Com} {i : Nat} {a b : Com} (ha : l[i]? = some a) (hb : l[i + 1]? = some b) (e : a.who = b.who) : ¬ Single l :=
  fun h => single_iff.1 h i (i + 1) a b (by omega) ha hb e
theorem pair_eq {l : List Com} {i k : Nat} {a b : Com} (hk : k < i) (ha : l[k]? = some a) (hb : l[i]? = some b) (e : a.who = b.who) : ¬ Single l :=
  fun h => single_iff.1 h k i a b hk ha hb e

end Go.Proofs.YtebgmlbbilcbbaaGreatDoor
namespace Go.Proofs.YtebgmlbbilcbbaaGreatDoor
open Go.Lib

/-- A text cut at its blanks. -/
def wordsL : List UInt8 → List (List UInt8)
  | [] => [[]]
  | b :: l => if b = 32 then [] :: wordsL l else
    match wordsL l with
    | [] => [[b]]
    | x :: r => (b :: x) :: r
theorem wordsL_blank (l : List UInt8) : wordsL (32 :: l) = [] :: wordsL l := by rw [wordsL, if_pos rfl]
theorem wordsL_ne (l : List UInt8) : wordsL l ≠ [] := by
  cases l with
  | nil => simp [wordsL]
  | cons b l =>
    unfold wordsL
    split
    · simp
    · split <;> simp
theorem wordsL_other {b : UInt8} (h : b ≠ 32) (l : List UInt8) : ∃ x r, wordsL l = x :: r ∧ wordsL (b :: l) = (b :: x) :: r := by
  cases e : wordsL l with
  | nil => exact absurd e (wordsL_ne l)
  | cons x r => exact ⟨x, r, rfl, by rw [wordsL, if_neg h, e]⟩
theorem wordsL_run : ∀ (u r : List UInt8), 32 ∉ u → wordsL (u ++ 32 :: r) = u :: wordsL r
  | [], r, _ => wordsL_blank r
  | b :: u, r, h => by
    have hb : b ≠ 32 := fun e => h (by rw [e]; simp)
    obtain ⟨x, t, e1, e2⟩ := wordsL_other hb (u ++ 32 :: r)
    rw [wordsL_run u r (fun k => h (List.mem_cons_of_mem _ k))] at e1
    injection e1 with e3 e4
    rw [List.cons_append, e2, ← e3, ← e4]
theorem wordsL_last : ∀ u : List UInt8, 32 ∉ u → wordsL u = [u]
  | [], _ => rfl
  | b :: u, h => by
    have hb : b ≠ 32 := fun e => h (by rw [e]; simp)
    obtain ⟨x, t, e1, e2⟩ := wordsL_other hb u
    rw [wordsL_last u (fun k => h (List.mem_cons_of_mem _ k))] at e1
    injection e1 with e3 e4
    rw [e2, ← e3, ← e4]
/-- Words joined by blanks. -/
def glue : List (List UInt8) → List UInt8
  | [] => []
  | [x] => x
  | x :: y :: r => x ++ 32 :: glue (y :: r)
theorem glue_cons (x : List UInt8) {r : List (List UInt8)} (h : r ≠ []) : glue (x :: r) = x ++ 32 :: glue r := by
  cases r with
  | nil => exact absurd rfl h
  | cons y r => rfl
theorem glue_words : ∀ l : List UInt8, glue (wordsL l) = l
  | [] => rfl
  | b :: l => by
    by_cases hb : b = 32
    · rw [hb, wordsL_blank, glue_cons _ (wordsL_ne l), glue_words l]; rfl
    · obtain ⟨x, r, e1, e2⟩ := wordsL_other hb l
      have ih := glue_words l
      rw [e1] at ih
      rw [e2]
      cases r with
      | nil => show b :: x = _; rw [show x = l from ih]
      | cons y r => show b :: (x ++ 32 :: glue (y :: r)) = _; rw [show x ++ 32 :: glue (y :: r) = l from ih]
theorem words_clean : ∀ (l : List UInt8), ∀ x ∈ wordsL l, 32 ∉ x
  | [] => by simp [wordsL]
  | b :: l => by
    by_cases hb : b = 32
    · rw [hb, wordsL_blank]
      intro x hx
      rcases List.mem_cons.1 hx with rfl | hx
      · simp
      · exact words_clean l x hx
    · obtain ⟨y, r, e1, e2⟩ := wordsL_other hb l
      have ih := words_clean l
      rw [e1] at ih
      rw [e2]
      intro x hx
      rcases List.mem_cons.1 hx with rfl | hx
      · intro hm
        rcases List.mem_cons.1 hm with e | hm
        · exact hb e.symm
        · exact ih y (by simp) hm
      · exact ih x (List.mem_cons_of_mem _ hx)
theorem words_len (l : List UInt8) : ∀ x ∈ wordsL l, x.length ≤ l.length := by
  have h : ∀ ws : List (List UInt8), ∀ x ∈ ws, x.length ≤ (glue ws).length := by
    intro ws
    induction ws with
    | nil => simp
    | cons y r ih =>
      intro x hx
      by_cases hr : r = []
      · subst hr
        rcases List.mem_cons.1 hx with rfl | hx
        · exact Nat.le_refl _
        · cases hx
      · rw [glue_cons y hr, List.length_append, List.length_cons]
        rcases List.mem_cons.1 hx with rfl | hx
        · omega
        · have := ih x hx; omega
  intro x hx
  have := h (wordsL l) x hx
  rwa [glue_words] at this
theorem words_four {l a b c d : List UInt8} (h : wordsL l = [a, b, c, d]) : l = a ++ 32 :: (b ++ 32 :: (c ++ 32 :: d)) := by
  rw [← glue_words l, h]; rfl
theorem words_of_four {a b c d : List UInt8} (ha : 32 ∉ a) (hb : 32 ∉ b) (hc : 32 ∉ c) (hd : 32 ∉ d) : wordsL (a ++ 32 :: (b ++ 32 :: (c ++ 32 :: d))) = [a, b, c, d] := by
  rw [wordsL_run a _ ha, wordsL_run b _ hb, wordsL_run c _ hc, wordsL_last d hd]

/-- The library's Split at a blank. -/
theorem split_words : ∀ l : List UInt8, splitK [32] 0 (count l [32]) l = wordsL l
  | [] => by rw [count_miss (by simp [index])]; rfl
  | b :: l => by
    by_cases hb : b = 32
    · subst hb
      have hix : index (32 :: l) [32] = ((0 : Nat) : Int) := by rw [index]; simp [List.isPrefixOf]
      rw [count_cons_eq, Nat.add_comm, splitK, hix, wordsL_blank, ← split_words l]
      rfl
    · obtain ⟨x, r, e1, e2⟩ := wordsL_other hb l
      have ih := split_words l
      rw [e1] at ih
      rw [count_cons_ne b 32 l hb, e2]
      have hp : ([32] : List UInt8).isPrefixOf (b :: l) = false := by simp [List.isPrefixOf, Ne.symm hb]
      have hix : index (b :: l) [32] = if index l [32] == -1 then -1 else index l [32] + 1 := by rw [index, hp]; simp
      by_cases hm : index l [32] = -1
      · rw [count_miss hm] at ih ⊢
        have e3 : [l] = x :: r := ih
        injection e3 with e4 e5
        rw [← e4, ← e5]; rfl
      · have hge := index_ge l [32]
        obtain ⟨j, hj⟩ : ∃ j : Nat, index l [32] = j := ⟨(index l [32]).toNat, by omega⟩
        have hix' : index (b :: l) [32] = ((j + 1 : Nat) : Int) := by rw [hix, if_neg (fun e => hm (beq_iff_eq.1 e)), hj]; omega
        have hc := count_hit (s := l) (sub := [32]) (by simp) hj
        rw [Nat.add_comm] at hc
        rw [hc] at ih ⊢
        have n1 : ((j : Int) == -1) = false := by rw [beq_eq_false_iff_ne]; omega
        have n2 : (((j + 1 : Nat) : Int) == -1) = false := by rw [beq_eq_false_iff_ne]; omega
        rw [splitK, hj, n1] at ih
        rw [splitK, hix', n2]
        simp only [Bool.false_eq_true, if_false] at ih ⊢
        injection ih with i1 i2
        have t1 : ((j : Int)).toNat = j := by omega
        have t2 : (((j + 1 : Nat) : Int)).toNat = j + 1 := by omega
        rw [t1] at i1 i2
        rw [t2]
        congr 1
        · rw [← i1]; rfl

/-- Digits are read. -/
theorem parse_digits : ∀ (l : List UInt8) (acc : Nat), l.all isD = true → acc * 10 ^ l.length + dval l < 18446744073709551616 → parseUint10 acc l = .ok (acc * 10 ^ l.length + dval l)
  | [], acc, _, _ => by simp [parseUint10, dval]
  | x :: l, acc, h, hlt => by
    rw [List.all_cons, Bool.and_eq_true] at h
    have h1 := isD_iff.1 h.1
    have e : acc * 10 ^ (x :: l).length + dval (x :: l) = (acc * 10 + (x.toNat - 48)) * 10 ^ l.length + dval l := by
      rw [show dval (x :: l) = dval ([x] ++ l) from rfl, dval_append, List.length_cons, Nat.pow_succ, Nat.add_mul]
      have : dval [x] = x.toNat - 48 := by simp [dval]
      rw [this, ← Nat.add_assoc, Nat.mul_assoc, Nat.mul_comm 10]
    rw [e] at hlt ⊢
    have hp : 1 ≤ 10 ^ l.length := Nat.pow_pos (by omega)
    have h2 : acc * 10 + (x.toNat - 48) ≤ (acc * 10 + (x.toNat - 48)) * 10 ^ l.length := Nat.le_mul_of_pos_right _ hp
    rw [parseUint10, if_pos h1, if_neg (by omega), if_neg (by omega)]
    exact parse_digits l _ h.2 hlt
theorem dec_plain (n : Nat) : ∃ x t, decDigits n = x :: t ∧ 48 ≤ x.toNat ∧ x.toNat ≤ 57 := by
  obtain ⟨x, t, e⟩ := List.exists_cons_of_ne_nil (dec_ne n)
  have h := dec_all n
  rw [e, List.all_cons, Bool.and_eq_true] at h
  exact ⟨x, t, e, isD_iff.1 h.1⟩
theorem mag_dec {n : Nat} (h : n < 18446744073709551616) : parseMag (decDigits n) = .ok n := by
  unfold parseMag
  have hv := dec_val n
  rw [if_neg (dec_ne n), parse_digits _ 0 (dec_all n) (by omega), Nat.zero_mul, Nat.zero_add, hv]
/-- An int is read again. -/
theorem atoi_decI {z : Int} (h1 : -9223372036854775808 ≤ z) (h2 : z ≤ 9223372036854775807) : atoiAll (decI z) = .ok z := by
  unfold decI
  split
  · rename_i hz
    unfold atoiAll
    simp only
    rw [if_pos (.inr (by decide)), mag_dec (by omega)]
    simp only
    rw [if_neg (by simp), if_neg (by omega), if_pos (by decide)]
    congr 1
    omega
  · rename_i hz
    obtain ⟨x, t, e, hx1, hx2⟩ := dec_plain z.natAbs
    have hm := mag_dec (n := z.natAbs) (by omega)
    rw [e] at hm ⊢
    unfold atoiAll
    simp only
    rw [if_neg (by omega), hm]
    simp only
    rw [if_neg (by omega), if_neg (by omega), if_neg (by omega)]
    congr 1
    omega
theorem decI_nat (n : Nat) : decI (n : Int) = decDigits n := by
  unfold decI
  rw [if_neg (by omega), Int.natAbs_natCast]

/-- The state that a text says. -/
def workL (l : List UInt8) : Option (Nat × Nat × Nat) :=
  match wordsL l with
  | [a, b, c, d] => if a = [119, 111, 114, 107] ∧ goodD b = true ∧ goodD c = true ∧ goodD d = true ∧ dval b ≤ dval c ∧ dval c ≤ 1048576 ∧ dval d < modN then some (dval b, dval c, dval d) else none
  | _ => none
theorem workL_some {l : List UInt8} {d t v : Nat} (h : workL l = some (d, t, v)) :
    l = [119, 111, 114, 107] ++ 32 :: (decDigits d ++ 32 :: (decDigits t ++ 32 :: decDigits v)) ∧ d ≤ t ∧ t ≤ 1048576 ∧ v < modN := by
  unfold workL at h
  split at h
  · rename_i a b c e hw
    split at h
    · rename_i hc
      obtain ⟨rfl, hb, hcc, he, h1, h2, h3⟩ := hc
      cases h
      rw [words_four hw, dec_self _ b rfl hb, dec_self _ c rfl hcc, dec_self _ e rfl he]
      exact ⟨rfl, h1, h2, h3⟩
    · cases h
  · cases h
/-- Whether the text of a small number is read. -/
def smallL (l : List UInt8) : Bool := goodD l && decide (dval l ≤ 1048576)
theorem smallL_dec {l : List UInt8} (h : smallL l = true) : decDigits (dval l) = l ∧ dval l ≤ 1048576 := by
  unfold smallL at h
  rw [Bool.and_eq_true, decide_eq_true_eq] at h
  exact ⟨dec_self _ l rfl h.1, h.2⟩
theorem smallL_atoi {l : List UInt8} (h : smallL l = true) : atoiAll l = .ok (dval l : Int) := by
  obtain ⟨h1, h2⟩ := smallL_dec h
  have := atoi_decI (z := (dval l : Int)) (by omega) (by omega)
  rwa [decI_nat, h1] at this
/-- What is read but not small. -/
theorem smallL_not {l : List UInt8} {v : Int} (h : smallL l = false) (ha : atoiAll l = .ok v) : v < 0 ∨ 1048576 < v ∨ decI v ≠ l := by
  rcases Int.lt_or_le v 0 with h0 | h0
  · exact .inl h0
  rcases Int.lt_or_le 1048576 v with h1 | h1
  · exact .inr (.inl h1)
  refine .inr (.inr fun e => ?_)
  obtain ⟨n, rfl⟩ := Int.eq_ofNat_of_zero_le h0
  rw [decI_nat] at e
  unfold smallL at h
  rw [← e, dec_good, dec_val, Bool.true_and, decide_eq_false_iff_not] at h
  omega

/-- A word ends at a blank. -/
theorem words_hit {l : List UInt8} {f i : Nat} (hf : f ≤ i) (hi : l[i]? = some 32) (hno : ∀ j, f ≤ j → j < i → l[j]? ≠ some 32) : wordsL (l.drop f) = (l.drop f).take (i - f) :: wordsL (l.drop (i + 1)) := by
  have hil := (List.getElem?_eq_some_iff.1 hi).1
  have e : l.drop f = (l.drop f).take (i - f) ++ 32 :: l.drop (i + 1) := by
    conv => lhs; rw [← List.take_append_drop (i - f) (l.drop f)]
    congr 1
    rw [List.drop_drop, show f + (i - f) = i by omega, List.drop_eq_getElem_cons hil]
    congr 1
    rw [List.getElem?_eq_getElem hil] at hi
    exact Option.some.inj hi
  conv => lhs; rw [e]
  refine wordsL_run _ _ fun hm => ?_
  obtain ⟨j, hj⟩ := List.mem_iff_getElem?.1 hm
  rw [List.getElem?_take] at hj
  split at hj
  · rename_i hlt
    rw [List.getElem?_drop] at hj
    exact hno (f + j) (by omega) (by omega) hj
  · cases hj
theorem words_end {l : List UInt8} {f : Nat} (hno : ∀ j, f ≤ j → j < l.length → l[j]? ≠ some 32) : wordsL (l.drop f) = [l.drop f] := by
  refine wordsL_last _ fun hm => ?_
  obtain ⟨j, hj⟩ := List.mem_iff_getElem?.1 hm
  rw [List.getElem?_drop] at hj
  have := (List.getElem?_eq_some_iff.1 hj).1
  exact hno (f + j) (by omega) this hj
/-- A row of bytes as a string. -/
def strB (l : List UInt8) : ByteArray := ⟨l.toArray⟩
theorem strB_list (l : List UInt8) : (strB l).data.toList = l := by simp [strB]
theorem strB_self (s : ByteArray) : strB s.data.toList = s := ByteArray.ext (Array.toList_inj.1 (by rw [strB_list]))
theorem strB_size (l : List UInt8) : (strB l).size = l.length := by show l.toArray.size = _; simp
theorem strB_inj {a b : List UInt8} (h : strB a = strB b) : a = b := by rw [← strB_list a, h, strB_list]
/-- A text cut at its blanks, as strings. -/
def wordsS (s : ByteArray) : List ByteArray := (wordsL s.data.toList).map strB

end Go.Proofs.YtebgmlbbilcbbaaGreatDoor
