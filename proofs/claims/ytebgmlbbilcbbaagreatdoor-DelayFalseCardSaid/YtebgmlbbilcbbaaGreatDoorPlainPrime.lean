/- Plain facts: powers modulo a number, Lucas' test for primes, and that the power with the exponent P - 1 of a number that P does not divide is 1 modulo P. -/
namespace Go.Proofs.YtebgmlbbilcbbaaGreatDoor

/-- A power modulo m, by squaring. -/
def pm (m : Nat) : Nat → Nat → Nat → Nat
  | 0, _, _ => 1 % m
  | f + 1, b, e => if e = 0 then 1 % m else if e % 2 = 1 then pm m f (b * b % m) (e / 2) * b % m else pm m f (b * b % m) (e / 2)

theorem pm_eq (m : Nat) : ∀ f b e, e < 2 ^ f → pm m f b e = b ^ e % m := by
  intro f
  induction f with
  | zero =>
    intro b e he
    have : e = 0 := by simpa using he
    subst this
    simp [pm]
  | succ f ih =>
    intro b e he
    unfold pm
    have hlt : e / 2 < 2 ^ f := by rw [Nat.pow_succ] at he; omega
    have hsq : ∀ k, (b * b % m) ^ k % m = b ^ (2 * k) % m := fun k => by
      rw [← Nat.pow_mod, Nat.pow_mul, Nat.pow_two]
    by_cases h0 : e = 0
    · subst h0; simp
    · rw [if_neg h0]
      by_cases h1 : e % 2 = 1
      · rw [if_pos h1, ih _ _ hlt, hsq, Nat.mod_mul_mod, ← Nat.pow_succ]
        congr 2
        omega
      · rw [if_neg h1, ih _ _ hlt, hsq]
        congr 2
        omega

/-- A number whose divisors are 1 and itself. -/
def Pr (n : Nat) : Prop := 1 < n ∧ ∀ d, d ∣ n → d = 1 ∨ d = n

theorem pr_small {n : Nat} (h : 1 < n) (hd : ∀ d, d < n → d ∣ n → d = 1) : Pr n := ⟨h, fun d h1 => by
  rcases Nat.lt_or_ge d n with h2 | h2
  · exact .inl (hd d h2 h1)
  · exact .inr (Nat.le_antisymm (Nat.le_of_dvd (by omega) h1) h2)⟩

theorem pow_one_mod {g n e : Nat} (hn : 1 < n) (h : g ^ e % n = 1) (k : Nat) : g ^ (e * k) % n = 1 := by
  rw [Nat.pow_mul, Nat.pow_mod, h, Nat.one_pow, Nat.mod_eq_of_lt hn]
theorem pow_rest {g n i j : Nat} (hn : 1 < n) (hi : g ^ i % n = 1) (hj : g ^ j % n = 1) : g ^ (i % j) % n = 1 := by
  have e : g ^ i = g ^ (j * (i / j)) * g ^ (i % j) := by rw [← Nat.pow_add, Nat.div_add_mod]
  rw [e, Nat.mul_mod, pow_one_mod hn hj, Nat.one_mul, Nat.mod_mod] at hi
  exact hi
theorem pow_gcd {g n : Nat} (hn : 1 < n) (i j : Nat) (hi : g ^ i % n = 1) (hj : g ^ j % n = 1) : g ^ (Nat.gcd i j) % n = 1 := by
  induction i, j using Nat.gcd.induction with
  | H0 j => rwa [Nat.gcd_zero_left]
  | H1 i j h0 ih =>
    rw [Nat.gcd_rec]
    exact ih (pow_rest hn hj hi) hi

theorem prod_factor : ∀ (qs : List Nat) (k : Nat), (∀ q ∈ qs, Pr q) → 1 < k → k ∣ qs.foldr (· * ·) 1 → ∃ q ∈ qs, q ∣ k := by
  intro qs
  induction qs with
  | nil =>
    intro k _ hk hd
    have : k = 1 := Nat.dvd_one.1 hd
    omega
  | cons q qs ih =>
    intro k hp hk hd
    have hq := hp q (List.mem_cons_self ..)
    rcases hq.2 _ (Nat.gcd_dvd_right k q) with h1 | h1
    · have hd' : k ∣ q * qs.foldr (· * ·) 1 := hd
      obtain ⟨r, hr, hrk⟩ := ih k (fun r hr => hp r (List.mem_cons_of_mem _ hr)) hk (Nat.Coprime.dvd_of_dvd_mul_left h1 hd')
      exact ⟨r, List.mem_cons_of_mem _ hr, hrk⟩
    · exact ⟨q, List.mem_cons_self .., h1 ▸ Nat.gcd_dvd_left k q⟩

theorem order_all {g n N : Nat} (qs : List Nat) (hn : 1 < n) (hN : N = qs.foldr (· * ·) 1) (hN0 : 0 < N) (hp : ∀ q ∈ qs, Pr q) (h1 : g ^ N % n = 1) (hq : ∀ q ∈ qs, g ^ (N / q) % n ≠ 1)
    (i : Nat) (hi0 : 0 < i) (hi : i < N) : g ^ i % n ≠ 1 := by
  intro h
  have hd := pow_gcd hn i N h h1
  have hdN := Nat.gcd_dvd_right i N
  have hdi : Nat.gcd i N ≤ i := Nat.gcd_le_left _ hi0
  generalize Nat.gcd i N = d at hd hdN hdi
  obtain ⟨k, hk⟩ := hdN
  have hd0 : 0 < d := by
    rcases Nat.eq_zero_or_pos d with e | e
    · subst e; rw [Nat.zero_mul] at hk; omega
    · exact e
  have hk1 : 1 < k := by
    rcases Nat.lt_or_ge 1 k with e | e
    · exact e
    · have : d * k ≤ d * 1 := Nat.mul_le_mul_left _ e
      omega
  obtain ⟨q, hqm, r, hr⟩ := prod_factor qs k hp hk1 (by rw [← hN, hk]; exact Nat.dvd_mul_left _ _)
  have hq0 : 0 < q := by have := (hp q hqm).1; omega
  apply hq q hqm
  have : N / q = d * r := by
    rw [hk, hr, show d * (q * r) = q * (d * r) by rw [← Nat.mul_assoc, Nat.mul_comm d q, Nat.mul_assoc]]
    exact Nat.mul_div_cancel_left _ hq0
  rw [this]
  exact pow_one_mod hn hd r

theorem few_below : ∀ (m : Nat) (l : List Nat), l.Nodup → (∀ x ∈ l, x < m) → l.length ≤ m := by
  intro m
  induction m with
  | zero =>
    intro l _ h
    cases l with
    | nil => exact Nat.le_refl _
    | cons x l => exact absurd (h x (List.mem_cons_self ..)) (by omega)
  | succ m ih =>
    intro l hn h
    have h1 := ih (l.erase m) (hn.erase m) (fun x hx => by
      have h2 := (List.Nodup.mem_erase_iff hn).1 hx
      have h3 := h x h2.2
      have h4 := h2.1
      omega)
    have h2 : l.length ≤ (l.erase m).length + 1 := by
      rw [List.length_erase]
      split <;> omega
    omega

theorem reached {g n : Nat} (hn : 1 < n) (h1 : g ^ (n - 1) % n = 1) (hord : ∀ i, 0 < i → i < n - 1 → g ^ i % n ≠ 1) (a : Nat) (ha : 0 < a) (han : a < n) : ∃ k, g ^ k % n = a := by
  apply Classical.byContradiction
  intro hno
  have hno' : ∀ k, g ^ k % n ≠ a := fun k hk => hno ⟨k, hk⟩
  have hinv : ∀ i, i ≤ n - 1 → g ^ i % n * (g ^ (n - 1 - i) % n) % n = 1 := fun i hi => by
    rw [← Nat.mul_mod, ← Nat.pow_add, show i + (n - 1 - i) = n - 1 by omega]; exact h1
  have hinj : ∀ i j, i < j → j < n - 1 → g ^ i % n ≠ g ^ j % n := by
    intro i j hij hj h
    have e := hinv i (by omega)
    rw [h] at e
    have e2 : g ^ (j - i) % n = 1 := by
      have e3 : g ^ j % n * (g ^ (n - 1 - i) % n) % n = g ^ (j - i) % n := by
        rw [← Nat.mul_mod, ← Nat.pow_add, show j + (n - 1 - i) = (j - i) + (n - 1) by omega, Nat.pow_add, Nat.mul_mod, h1, Nat.mul_one, Nat.mod_mod]
      rw [← e3]; exact e
    exact hord (j - i) (by omega) (by omega) e2
  have hz : ∀ i, i < n - 1 → g ^ i % n ≠ 0 := fun i hi h0 => by
    have e := hinv i (by omega)
    rw [h0, Nat.zero_mul, Nat.zero_mod] at e
    omega
  have hl := few_below n (0 :: a :: (List.range (n - 1)).map fun i => g ^ i % n) (by
    rw [List.nodup_cons, List.nodup_cons]
    refine ⟨fun h => ?_, fun h => ?_, ?_⟩
    · rcases List.mem_cons.1 h with h | h
      · omega
      · obtain ⟨i, hi, he⟩ := List.mem_map.1 h
        exact hz i (List.mem_range.1 hi) he
    · obtain ⟨i, hi, he⟩ := List.mem_map.1 h
      exact hno' i he
    · rw [List.nodup_iff_pairwise_ne, List.pairwise_map]
      refine List.Pairwise.imp_of_mem ?_ (List.pairwise_lt_range (n := n - 1))
      intro i j _ hj hij
      exact hinj i j hij (List.mem_range.1 hj)) (by
    intro x hx
    rcases List.mem_cons.1 hx with h | h
    · omega
    · rcases List.mem_cons.1 h with h | h
      · omega
      · obtain ⟨i, hi, he⟩ := List.mem_map.1 h
        rw [← he]
        exact Nat.mod_lt _ (by omega))
  simp only [List.length_cons, List.length_map, List.length_range] at hl
  omega

/-- Lucas' test: all powers with the exponent n - 1 are 1, and n is prime. -/
theorem lucas {g n : Nat} (qs : List Nat) (hn : 2 < n) (hN : n - 1 = qs.foldr (· * ·) 1) (hp : ∀ q ∈ qs, Pr q) (h1 : g ^ (n - 1) % n = 1) (hq : ∀ q ∈ qs, g ^ ((n - 1) / q) % n ≠ 1) :
    (∀ a, a % n ≠ 0 → a ^ (n - 1) % n = 1) ∧ Pr n := by
  have hord := order_all qs (by omega) hN (by omega) hp h1 hq
  have hall : ∀ a, a % n ≠ 0 → a ^ (n - 1) % n = 1 := fun a ha => by
    obtain ⟨k, hk⟩ := reached (by omega) h1 hord (a % n) (by omega) (Nat.mod_lt _ (by omega))
    rw [Nat.pow_mod, ← hk, ← Nat.pow_mod, ← Nat.pow_mul, Nat.mul_comm, pow_one_mod (by omega) h1]
  refine ⟨hall, by omega, fun d hd => ?_⟩
  rcases Nat.lt_or_ge d n with h | h
  · left
    have hd0 : 0 < d := Nat.pos_of_dvd_of_pos hd (by omega)
    have e := hall d (by rw [Nat.mod_eq_of_lt h]; omega)
    have e2 : d ∣ d ^ (n - 1) % n := by
      refine (Nat.dvd_mod_iff hd).2 ?_
      rw [show n - 1 = (n - 2) + 1 by omega, Nat.pow_succ]
      exact Nat.dvd_mul_left _ _
    rw [e] at e2
    exact Nat.dvd_one.1 e2
  · exact .inr (Nat.le_antisymm (Nat.le_of_dvd (by omega) hd) h)

theorem lucas_pm {g n : Nat} (qs : List Nat) (hn : 2 < n) (hl : n < 2 ^ 64) (hN : n - 1 = qs.foldr (· * ·) 1) (hp : ∀ q ∈ qs, Pr q) (h1 : pm n 64 g (n - 1) = 1) (hq : ∀ q ∈ qs, pm n 64 g ((n - 1) / q) ≠ 1) :
    (∀ a, a % n ≠ 0 → a ^ (n - 1) % n = 1) ∧ Pr n :=
  lucas qs hn hN hp (by rw [← pm_eq n 64 g _ (by omega)]; exact h1) (fun q h => by
    have : (n - 1) / q ≤ n - 1 := Nat.div_le_self _ _
    rw [← pm_eq n 64 g _ (by omega)]; exact hq q h)

theorem pr_2 : Pr 2 := pr_small (by decide) (by decide +kernel)
theorem pr_3 : Pr 3 := pr_small (by decide) (by decide +kernel)
theorem pr_5 : Pr 5 := pr_small (by decide) (by decide +kernel)
theorem pr_7 : Pr 7 := pr_small (by decide) (by decide +kernel)
theorem pr_11 : Pr 11 := pr_small (by decide) (by decide +kernel)
theorem pr_19 : Pr 19 := pr_small (by decide) (by decide +kernel)
theorem pr_53 : Pr 53 := pr_small (by decide) (by decide +kernel)
theorem all_449 (n : Nat) (h : n = 449) : (∀ a, a % n ≠ 0 → a ^ (n - 1) % n = 1) ∧ Pr n := by
  refine lucas_pm (g := 3) (n := n) [2, 2, 2, 2, 2, 2, 7] (by subst h; decide +kernel) (by subst h; decide +kernel) (by subst h; decide +kernel) ?_ (by subst h; decide +kernel) (by subst h; decide +kernel)
  simp only [List.forall_mem_cons, List.not_mem_nil, false_imp_iff, implies_true, and_true]
  exact ⟨pr_2, pr_2, pr_2, pr_2, pr_2, pr_2, pr_7⟩
theorem pr_449 : Pr 449 := (all_449 _ rfl).2
theorem all_95189 (n : Nat) (h : n = 95189) : (∀ a, a % n ≠ 0 → a ^ (n - 1) % n = 1) ∧ Pr n := by
  refine lucas_pm (g := 2) (n := n) [2, 2, 53, 449] (by subst h; decide +kernel) (by subst h; decide +kernel) (by subst h; decide +kernel) ?_ (by subst h; decide +kernel) (by subst h; decide +kernel)
  simp only [List.forall_mem_cons, List.not_mem_nil, false_imp_iff, implies_true, and_true]
  exact ⟨pr_2, pr_2, pr_53, pr_449⟩
theorem pr_95189 : Pr 95189 := (all_95189 _ rfl).2
theorem all_2835870689 (n : Nat) (h : n = 2835870689) : (∀ a, a % n ≠ 0 → a ^ (n - 1) % n = 1) ∧ Pr n := by
  refine lucas_pm (g := 6) (n := n) [2, 2, 2, 2, 2, 7, 7, 19, 95189] (by subst h; decide +kernel) (by subst h; decide +kernel) (by subst h; decide +kernel) ?_ (by subst h; decide +kernel) (by subst h; decide +kernel)
  simp only [List.forall_mem_cons, List.not_mem_nil, false_imp_iff, implies_true, and_true]
  exact ⟨pr_2, pr_2, pr_2, pr_2, pr_2, pr_7, pr_7, pr_19, pr_95189⟩
theorem pr_2835870689 : Pr 2835870689 := (all_2835870689 _ rfl).2
theorem all_5671741379 (n : Nat) (h : n = 5671741379) : (∀ a, a % n ≠ 0 → a ^ (n - 1) % n = 1) ∧ Pr n := by
  refine lucas_pm (g := 2) (n := n) [2, 2835870689] (by subst h; decide +kernel) (by subst h; decide +kernel) (by subst h; decide +kernel) ?_ (by subst h; decide +kernel) (by subst h; decide +kernel)
  simp only [List.forall_mem_cons, List.not_mem_nil, false_imp_iff, implies_true, and_true]
  exact ⟨pr_2, pr_2835870689⟩
theorem pr_5671741379 : Pr 5671741379 := (all_5671741379 _ rfl).2
theorem all_751 (n : Nat) (h : n = 751) : (∀ a, a % n ≠ 0 → a ^ (n - 1) % n = 1) ∧ Pr n := by
  refine lucas_pm (g := 3) (n := n) [2, 3, 5, 5, 5] (by subst h; decide +kernel) (by subst h; decide +kernel) (by subst h; decide +kernel) ?_ (by subst h; decide +kernel) (by subst h; decide +kernel)
  simp only [List.forall_mem_cons, List.not_mem_nil, false_imp_iff, implies_true, and_true]
  exact ⟨pr_2, pr_3, pr_5, pr_5, pr_5⟩
theorem pr_751 : Pr 751 := (all_751 _ rfl).2
theorem all_1409 (n : Nat) (h : n = 1409) : (∀ a, a % n ≠ 0 → a ^ (n - 1) % n = 1) ∧ Pr n := by
  refine lucas_pm (g := 3) (n := n) [2, 2, 2, 2, 2, 2, 2, 11] (by subst h; decide +kernel) (by subst h; decide +kernel) (by subst h; decide +kernel) ?_ (by subst h; decide +kernel) (by subst h; decide +kernel)
  simp only [List.forall_mem_cons, List.not_mem_nil, false_imp_iff, implies_true, and_true]
  exact ⟨pr_2, pr_2, pr_2, pr_2, pr_2, pr_2, pr_2, pr_11⟩
theorem pr_1409 : Pr 1409 := (all_1409 _ rfl).2
theorem all_2819 (n : Nat) (h : n = 2819) : (∀ a, a % n ≠ 0 → a ^ (n - 1) % n = 1) ∧ Pr n := by
  refine lucas_pm (g := 2) (n := n) [2, 1409] (by subst h; decide +kernel) (by subst h; decide +kernel) (by subst h; decide +kernel) ?_ (by subst h; decide +kernel) (by subst h; decide +kernel)
  simp only [List.forall_mem_cons, List.not_mem_nil, false_imp_iff, implies_true, and_true]
  exact ⟨pr_2, pr_1409⟩
theorem pr_2819 : Pr 2819 := (all_2819 _ rfl).2
theorem all_5639 (n : Nat) (h : n = 5639) : (∀ a, a % n ≠ 0 → a ^ (n - 1) % n = 1) ∧ Pr n := by
  refine lucas_pm (g := 7) (n := n) [2, 2819] (by subst h; decide +kernel) (by subst h; decide +kernel) (by subst h; decide +kernel) ?_ (by subst h; decide +kernel) (by subst h; decide +kernel)
  simp only [List.forall_mem_cons, List.not_mem_nil, false_imp_iff, implies_true, and_true]
  exact ⟨pr_2, pr_2819⟩
theorem pr_5639 : Pr 5639 := (all_5639 _ rfl).2
theorem all_8469779 (n : Nat) (h : n = 8469779) : (∀ a, a % n ≠ 0 → a ^ (n - 1) % n = 1) ∧ Pr n := by
  refine lucas_pm (g := 2) (n := n) [2, 751, 5639] (by subst h; decide +kernel) (by subst h; decide +kernel) (by subst h; decide +kernel) ?_ (by subst h; decide +kernel) (by subst h; decide +kernel)
  simp only [List.forall_mem_cons, List.not_mem_nil, false_imp_iff, implies_true, and_true]
  exact ⟨pr_2, pr_751, pr_5639⟩
theorem pr_8469779 : Pr 8469779 := (all_8469779 _ rfl).2
theorem all_288230376151711447 (n : Nat) (h : n = 288230376151711447) : (∀ a, a % n ≠ 0 → a ^ (n - 1) % n = 1) ∧ Pr n := by
  refine lucas_pm (g := 6) (n := n) [2, 3, 8469779, 5671741379] (by subst h; decide +kernel) (by subst h; decide +kernel) (by subst h; decide +kernel) ?_ (by subst h; decide +kernel) (by subst h; decide +kernel)
  simp only [List.forall_mem_cons, List.not_mem_nil, false_imp_iff, implies_true, and_true]
  exact ⟨pr_2, pr_3, pr_8469779, pr_5671741379⟩
theorem pr_288230376151711447 : Pr 288230376151711447 := (all_288230376151711447 _ rfl).2
theorem all_1152921504606845789 (n : Nat) (h : n = 1152921504606845789) : (∀ a, a % n ≠ 0 → a ^ (n - 1) % n = 1) ∧ Pr n := by
  refine lucas_pm (g := 2) (n := n) [2, 2, 288230376151711447] (by subst h; decide +kernel) (by subst h; decide +kernel) (by subst h; decide +kernel) ?_ (by subst h; decide +kernel) (by subst h; decide +kernel)
  simp only [List.forall_mem_cons, List.not_mem_nil, false_imp_iff, implies_true, and_true]
  exact ⟨pr_2, pr_2, pr_288230376151711447⟩
theorem pr_1152921504606845789 : Pr 1152921504606845789 := (all_1152921504606845789 _ rfl).2
theorem all_2305843009213691579 (n : Nat) (h : n = 2305843009213691579) : (∀ a, a % n ≠ 0 → a ^ (n - 1) % n = 1) ∧ Pr n := by
  refine lucas_pm (g := 2) (n := n) [2, 1152921504606845789] (by subst h; decide +kernel) (by subst h; decide +kernel) (by subst h; decide +kernel) ?_ (by subst h; decide +kernel) (by subst h; decide +kernel)
  simp only [List.forall_mem_cons, List.not_mem_nil, false_imp_iff, implies_true, and_true]
  exact ⟨pr_2, pr_1152921504606845789⟩
theorem pr_2305843009213691579 : Pr 2305843009213691579 := (all_2305843009213691579 _ rfl).2

end Go.Proofs.YtebgmlbbilcbbaaGreatDoor
