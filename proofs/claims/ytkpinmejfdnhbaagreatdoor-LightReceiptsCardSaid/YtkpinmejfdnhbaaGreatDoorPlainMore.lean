/- Joined by a program: PlainPrime, PlainSha, PlainDelay, PlainTxt, PlainLock, PlainConv, PlainBox, PlainLocked, PlainWork. -/
import Derived.Laws.BitsAllLaws
import Derived.Test.YtkpinmejfdnhbaaGreatDoorPlainAll
import Derived.Lib.AtoiAll
import Derived.Lib.SplitLaws
namespace Go.Proofs.YtkpinmejfdnhbaaGreatDoor
def pm (m : Nat) : Nat → Nat → Nat → Nat
 | 0, _, _ => 1 % m
 | f + 1, b, e => if e = 0 then 1 % m else if e % 2 = 1 then pm m f (b * b % m) (e / 2) * b % m else pm m f (b * b % m) (e / 2)
theorem pm_eq (m : Nat) : ∀ f b e, e < 2 ^ f → pm m f b e = b ^ e % m := by
 intro f
 induction f with
 | zero =>
   intro b e he;have : e = 0 := by simpa using he
   subst this
   simp [pm]
 | succ f ih =>
   intro b e he;unfold pm;have hlt : e / 2 < 2 ^ f := by rw [Nat.pow_succ] at he; omega
   have hsq : ∀ k, (b * b % m) ^ k % m = b ^ (2 * k) % m := fun k => by
    rw [← Nat.pow_mod, Nat.pow_mul, Nat.pow_two]
   by_cases h0 : e = 0
   ·subst h0; simp
   ·rw [if_neg h0]
    by_cases h1 : e % 2 = 1
    ·rw [if_pos h1, ih _ _ hlt, hsq, Nat.mod_mul_mod, ← Nat.pow_succ]
     congr 2
     omega
    ·rw [if_neg h1, ih _ _ hlt, hsq]
     congr 2
     omega
def Pr (n : Nat) : Prop := 1 < n ∧ ∀ d, d ∣ n → d = 1 ∨ d = n
theorem pr_small {n : Nat} (h : 1 < n) (hd : ∀ d, d < n → d ∣ n → d = 1) : Pr n := ⟨h, fun d h1 => by
 rcases Nat.lt_or_ge d n with h2 | h2
 ·exact .inl (hd d h2 h1)
 ·exact .inr (Nat.le_antisymm (Nat.le_of_dvd (by omega) h1) h2)⟩
theorem pow_one_mod {g n e : Nat} (hn : 1 < n) (h : g ^ e % n = 1) (k : Nat) : g ^ (e * k) % n = 1 := by
 rw [Nat.pow_mul, Nat.pow_mod, h, Nat.one_pow, Nat.mod_eq_of_lt hn]
theorem pow_rest {g n i j : Nat} (hn : 1 < n) (hi : g ^ i % n = 1) (hj : g ^ j % n = 1) : g ^ (i % j) % n = 1 := by
 have e : g ^ i = g ^ (j * (i / j)) * g ^ (i % j) := by rw [← Nat.pow_add, Nat.div_add_mod]
 rw [e, Nat.mul_mod, pow_one_mod hn hj, Nat.one_mul, Nat.mod_mod] at hi;exact hi
theorem pow_gcd {g n : Nat} (hn : 1 < n) (i j : Nat) (hi : g ^ i % n = 1) (hj : g ^ j % n = 1) : g ^ (Nat.gcd i j) % n = 1 := by
 induction i, j using Nat.gcd.induction with
 | H0 j => rwa [Nat.gcd_zero_left]
 | H1 i j h0 ih =>
   rw [Nat.gcd_rec];exact ih (pow_rest hn hj hi) hi
theorem prod_factor : ∀ (qs : List Nat) (k : Nat), (∀ q ∈ qs, Pr q) → 1 < k → k ∣ qs.foldr (· * ·) 1 → ∃ q ∈ qs, q ∣ k := by
 intro qs
 induction qs with
 | nil =>
   intro k _ hk hd;have : k = 1 := Nat.dvd_one.1 hd
   omega
 | cons q qs ih =>
   intro k hp hk hd;have hq := hp q (List.mem_cons_self ..)
   rcases hq.2 _ (Nat.gcd_dvd_right k q) with h1 | h1
   ·have hd' : k ∣ q * qs.foldr (· * ·) 1 := hd;obtain ⟨r, hr, hrk⟩ := ih k (fun r hr => hp r (List.mem_cons_of_mem _ hr)) hk (Nat.Coprime.dvd_of_dvd_mul_left h1 hd');exact ⟨r, List.mem_cons_of_mem _ hr, hrk⟩
   ·exact ⟨q, List.mem_cons_self .., h1 ▸ Nat.gcd_dvd_left k q⟩
theorem order_all {g n N : Nat} (qs : List Nat) (hn : 1 < n) (hN : N = qs.foldr (· * ·) 1) (hN0 : 0 < N) (hp : ∀ q ∈ qs, Pr q) (h1 : g ^ N % n = 1) (hq : ∀ q ∈ qs, g ^ (N / q) % n ≠ 1)
 (i : Nat) (hi0 : 0 < i) (hi : i < N) : g ^ i % n ≠ 1 := by
 intro h;have hd := pow_gcd hn i N h h1;have hdN := Nat.gcd_dvd_right i N;have hdi : Nat.gcd i N ≤ i := Nat.gcd_le_left _ hi0;generalize Nat.gcd i N = d at hd hdN hdi;obtain ⟨k, hk⟩ := hdN;have hd0 : 0 < d := by
  rcases Nat.eq_zero_or_pos d with e | e
  ·subst e; rw [Nat.zero_mul] at hk; omega
  ·exact e
 have hk1 : 1 < k := by
  rcases Nat.lt_or_ge 1 k with e | e
  ·exact e
  ·have : d * k ≤ d * 1 := Nat.mul_le_mul_left _ e
   omega
 obtain ⟨q, hqm, r, hr⟩ := prod_factor qs k hp hk1 (by rw [← hN, hk]; exact Nat.dvd_mul_left _ _);have hq0 : 0 < q := by have := (hp q hqm).1; omega
 apply hq q hqm
 have : N / q = d * r := by
  rw [hk, hr, show d * (q * r) = q * (d * r) by rw [← Nat.mul_assoc, Nat.mul_comm d q, Nat.mul_assoc]];exact Nat.mul_div_cancel_left _ hq0
 rw [this];exact pow_one_mod hn hd r
theorem few_below : ∀ (m : Nat) (l : List Nat), l.Nodup → (∀ x ∈ l, x < m) → l.length ≤ m := by
 intro m
 induction m with
 | zero =>
   intro l _ h
   cases l with
   | nil => exact Nat.le_refl _
   | cons x l => exact absurd (h x (List.mem_cons_self ..)) (by omega)
 | succ m ih =>
   intro l hn h
   have h1 := ih (l.erase m) (hn.erase m) (fun x hx => by
    have h2 := (List.Nodup.mem_erase_iff hn).1 hx;have h3 := h x h2.2;have h4 := h2.1
    omega)
   have h2 : l.length ≤ (l.erase m).length + 1 := by
    rw [List.length_erase]
    split <;> omega
   omega
theorem reached {g n : Nat} (hn : 1 < n) (h1 : g ^ (n - 1) % n = 1) (hord : ∀ i, 0 < i → i < n - 1 → g ^ i % n ≠ 1) (a : Nat) (ha : 0 < a) (han : a < n) : ∃ k, g ^ k % n = a := by
 apply Classical.byContradiction
 intro hno;have hno' : ∀ k, g ^ k % n ≠ a := fun k hk => hno ⟨k, hk⟩;have hinv : ∀ i, i ≤ n - 1 → g ^ i % n * (g ^ (n - 1 - i) % n) % n = 1 := fun i hi => by
  rw [← Nat.mul_mod, ← Nat.pow_add, show i + (n - 1 - i) = n - 1 by omega]; exact h1
 have hinj : ∀ i j, i < j → j < n - 1 → g ^ i % n ≠ g ^ j % n := by
  intro i j hij hj h;have e := hinv i (by omega);rw [h] at e;have e2 : g ^ (j - i) % n = 1 := by
   have e3 : g ^ j % n * (g ^ (n - 1 - i) % n) % n = g ^ (j - i) % n := by
    rw [← Nat.mul_mod, ← Nat.pow_add, show j + (n - 1 - i) = (j - i) + (n - 1) by omega, Nat.pow_add, Nat.mul_mod, h1, Nat.mul_one, Nat.mod_mod]
   rw [← e3]; exact e
  exact hord (j - i) (by omega) (by omega) e2
 have hz : ∀ i, i < n - 1 → g ^ i % n ≠ 0 := fun i hi h0 => by
  have e := hinv i (by omega);rw [h0, Nat.zero_mul, Nat.zero_mod] at e
  omega
 have hl := few_below n (0 :: a :: (List.range (n - 1)).map fun i => g ^ i % n) (by
  rw [List.nodup_cons, List.nodup_cons];refine ⟨fun h => ?_, fun h => ?_, ?_⟩
  ·rcases List.mem_cons.1 h with h | h
   ·omega
   ·obtain ⟨i, hi, he⟩ := List.mem_map.1 h;exact hz i (List.mem_range.1 hi) he
  ·obtain ⟨i, hi, he⟩ := List.mem_map.1 h;exact hno' i he
  ·rw [List.nodup_iff_pairwise_ne, List.pairwise_map];refine List.Pairwise.imp_of_mem ?_ (List.pairwise_lt_range (n := n - 1));intro i j _ hj hij;exact hinj i j hij (List.mem_range.1 hj)) (by
  intro x hx
  rcases List.mem_cons.1 hx with h | h
  ·omega
  ·rcases List.mem_cons.1 h with h | h
   ·omega
   ·obtain ⟨i, hi, he⟩ := List.mem_map.1 h;rw [← he]
    exact Nat.mod_lt _ (by omega))
 simp only [List.length_cons, List.length_map, List.length_range] at hl
 omega
theorem lucas {g n : Nat} (qs : List Nat) (hn : 2 < n) (hN : n - 1 = qs.foldr (· * ·) 1) (hp : ∀ q ∈ qs, Pr q) (h1 : g ^ (n - 1) % n = 1) (hq : ∀ q ∈ qs, g ^ ((n - 1) / q) % n ≠ 1) :
 (∀ a, a % n ≠ 0 → a ^ (n - 1) % n = 1) ∧ Pr n := by
 have hord := order_all qs (by omega) hN (by omega) hp h1 hq;have hall : ∀ a, a % n ≠ 0 → a ^ (n - 1) % n = 1 := fun a ha => by
  obtain ⟨k, hk⟩ := reached (by omega) h1 hord (a % n) (by omega) (Nat.mod_lt _ (by omega));rw [Nat.pow_mod, ← hk, ← Nat.pow_mod, ← Nat.pow_mul, Nat.mul_comm, pow_one_mod (by omega) h1]
 refine ⟨hall, by omega, fun d hd => ?_⟩
 rcases Nat.lt_or_ge d n with h | h
 ·left
  have hd0 : 0 < d := Nat.pos_of_dvd_of_pos hd (by omega);have e := hall d (by rw [Nat.mod_eq_of_lt h]; omega);have e2 : d ∣ d ^ (n - 1) % n := by
   refine (Nat.dvd_mod_iff hd).2 ?_;rw [show n - 1 = (n - 2) + 1 by omega, Nat.pow_succ];exact Nat.dvd_mul_left _ _
  rw [e] at e2;exact Nat.dvd_one.1 e2
 ·exact .inr (Nat.le_antisymm (Nat.le_of_dvd (by omega) hd) h)
theorem lucas_pm {g n : Nat} (qs : List Nat) (hn : 2 < n) (hl : n < 2 ^ 64) (hN : n - 1 = qs.foldr (· * ·) 1) (hp : ∀ q ∈ qs, Pr q) (h1 : pm n 64 g (n - 1) = 1) (hq : ∀ q ∈ qs, pm n 64 g ((n - 1) / q) ≠ 1) :
 (∀ a, a % n ≠ 0 → a ^ (n - 1) % n = 1) ∧ Pr n :=
 lucas qs hn hN hp (by rw [← pm_eq n 64 g _ (by omega)]; exact h1) (fun q h => by
  have : (n - 1) / q ≤ n - 1 := Nat.div_le_self _ _
  rw [← pm_eq n 64 g _ (by omega)]; exact hq q h)
theorem pr_2 : Pr 2 := pr_small (by decide) (by decide +kernel)
theorem pr_3 : Pr 3 := pr_small (by decide) (by decide +kernel)
theorem pr_5 : Pr 5 := pr_small (by decide) (by decide +kernel)
theorem pr_7 : Pr 7 := pr_small (by decide) (by decide +kernel)
theorem pr_11 : Pr 11 := pr_small (by decide) (by decide +kernel)
theorem pr_19 : Pr 19 := pr_small (by decide) (by decide +kernel)
theorem pr_53 : Pr 53 := pr_small (by decide) (by decide +kernel)
theorem all_449 (n : Nat) (h : n = 449) : (∀ a, a % n ≠ 0 → a ^ (n - 1) % n = 1) ∧ Pr n := by
 refine lucas_pm (g := 3) (n := n) [2, 2, 2, 2, 2, 2, 7] (by subst h; decide +kernel) (by subst h; decide +kernel) (by subst h; decide +kernel) ?_ (by subst h; decide +kernel) (by subst h; decide +kernel);simp only [List.forall_mem_cons, List.not_mem_nil, false_imp_iff, implies_true, and_true];exact ⟨pr_2, pr_2, pr_2, pr_2, pr_2, pr_2, pr_7⟩
theorem pr_449 : Pr 449 := (all_449 _ rfl).2
theorem all_95189 (n : Nat) (h : n = 95189) : (∀ a, a % n ≠ 0 → a ^ (n - 1) % n = 1) ∧ Pr n := by
 refine lucas_pm (g := 2) (n := n) [2, 2, 53, 449] (by subst h; decide +kernel) (by subst h; decide +kernel) (by subst h; decide +kernel) ?_ (by subst h; decide +kernel) (by subst h; decide +kernel);simp only [List.forall_mem_cons, List.not_mem_nil, false_imp_iff, implies_true, and_true];exact ⟨pr_2, pr_2, pr_53, pr_449⟩
theorem pr_95189 : Pr 95189 := (all_95189 _ rfl).2
theorem all_2835870689 (n : Nat) (h : n = 2835870689) : (∀ a, a % n ≠ 0 → a ^ (n - 1) % n = 1) ∧ Pr n := by
 refine lucas_pm (g := 6) (n := n) [2, 2, 2, 2, 2, 7, 7, 19, 95189] (by subst h; decide +kernel) (by subst h; decide +kernel) (by subst h; decide +kernel) ?_ (by subst h; decide +kernel) (by subst h; decide +kernel);simp only [List.forall_mem_cons, List.not_mem_nil, false_imp_iff, implies_true, and_true];exact ⟨pr_2, pr_2, pr_2, pr_2, pr_2, pr_7, pr_7, pr_19, pr_95189⟩
theorem pr_2835870689 : Pr 2835870689 := (all_2835870689 _ rfl).2
theorem all_5671741379 (n : Nat) (h : n = 5671741379) : (∀ a, a % n ≠ 0 → a ^ (n - 1) % n = 1) ∧ Pr n := by
 refine lucas_pm (g := 2) (n := n) [2, 2835870689] (by subst h; decide +kernel) (by subst h; decide +kernel) (by subst h; decide +kernel) ?_ (by subst h; decide +kernel) (by subst h; decide +kernel);simp only [List.forall_mem_cons, List.not_mem_nil, false_imp_iff, implies_true, and_true];exact ⟨pr_2, pr_2835870689⟩
theorem pr_5671741379 : Pr 5671741379 := (all_5671741379 _ rfl).2
theorem all_751 (n : Nat) (h : n = 751) : (∀ a, a % n ≠ 0 → a ^ (n - 1) % n = 1) ∧ Pr n := by
 refine lucas_pm (g := 3) (n := n) [2, 3, 5, 5, 5] (by subst h; decide +kernel) (by subst h; decide +kernel) (by subst h; decide +kernel) ?_ (by subst h; decide +kernel) (by subst h; decide +kernel);simp only [List.forall_mem_cons, List.not_mem_nil, false_imp_iff, implies_true, and_true];exact ⟨pr_2, pr_3, pr_5, pr_5, pr_5⟩
theorem pr_751 : Pr 751 := (all_751 _ rfl).2
theorem all_1409 (n : Nat) (h : n = 1409) : (∀ a, a % n ≠ 0 → a ^ (n - 1) % n = 1) ∧ Pr n := by
 refine lucas_pm (g := 3) (n := n) [2, 2, 2, 2, 2, 2, 2, 11] (by subst h; decide +kernel) (by subst h; decide +kernel) (by subst h; decide +kernel) ?_ (by subst h; decide +kernel) (by subst h; decide +kernel);simp only [List.forall_mem_cons, List.not_mem_nil, false_imp_iff, implies_true, and_true];exact ⟨pr_2, pr_2, pr_2, pr_2, pr_2, pr_2, pr_2, pr_11⟩
theorem pr_1409 : Pr 1409 := (all_1409 _ rfl).2
theorem all_2819 (n : Nat) (h : n = 2819) : (∀ a, a % n ≠ 0 → a ^ (n - 1) % n = 1) ∧ Pr n := by
 refine lucas_pm (g := 2) (n := n) [2, 1409] (by subst h; decide +kernel) (by subst h; decide +kernel) (by subst h; decide +kernel) ?_ (by subst h; decide +kernel) (by subst h; decide +kernel);simp only [List.forall_mem_cons, List.not_mem_nil, false_imp_iff, implies_true, and_true];exact ⟨pr_2, pr_1409⟩
theorem pr_2819 : Pr 2819 := (all_2819 _ rfl).2
theorem all_5639 (n : Nat) (h : n = 5639) : (∀ a, a % n ≠ 0 → a ^ (n - 1) % n = 1) ∧ Pr n := by
 refine lucas_pm (g := 7) (n := n) [2, 2819] (by subst h; decide +kernel) (by subst h; decide +kernel) (by subst h; decide +kernel) ?_ (by subst h; decide +kernel) (by subst h; decide +kernel);simp only [List.forall_mem_cons, List.not_mem_nil, false_imp_iff, implies_true, and_true];exact ⟨pr_2, pr_2819⟩
theorem pr_5639 : Pr 5639 := (all_5639 _ rfl).2
theorem all_8469779 (n : Nat) (h : n = 8469779) : (∀ a, a % n ≠ 0 → a ^ (n - 1) % n = 1) ∧ Pr n := by
 refine lucas_pm (g := 2) (n := n) [2, 751, 5639] (by subst h; decide +kernel) (by subst h; decide +kernel) (by subst h; decide +kernel) ?_ (by subst h; decide +kernel) (by subst h; decide +kernel);simp only [List.forall_mem_cons, List.not_mem_nil, false_imp_iff, implies_true, and_true];exact ⟨pr_2, pr_751, pr_5639⟩
theorem pr_8469779 : Pr 8469779 := (all_8469779 _ rfl).2
theorem all_288230376151711447 (n : Nat) (h : n = 288230376151711447) : (∀ a, a % n ≠ 0 → a ^ (n - 1) % n = 1) ∧ Pr n := by
 refine lucas_pm (g := 6) (n := n) [2, 3, 8469779, 5671741379] (by subst h; decide +kernel) (by subst h; decide +kernel) (by subst h; decide +kernel) ?_ (by subst h; decide +kernel) (by subst h; decide +kernel);simp only [List.forall_mem_cons, List.not_mem_nil, false_imp_iff, implies_true, and_true];exact ⟨pr_2, pr_3, pr_8469779, pr_5671741379⟩
theorem pr_288230376151711447 : Pr 288230376151711447 := (all_288230376151711447 _ rfl).2
theorem all_1152921504606845789 (n : Nat) (h : n = 1152921504606845789) : (∀ a, a % n ≠ 0 → a ^ (n - 1) % n = 1) ∧ Pr n := by
 refine lucas_pm (g := 2) (n := n) [2, 2, 288230376151711447] (by subst h; decide +kernel) (by subst h; decide +kernel) (by subst h; decide +kernel) ?_ (by subst h; decide +kernel) (by subst h; decide +kernel);simp only [List.forall_mem_cons, List.not_mem_nil, false_imp_iff, implies_true, and_true];exact ⟨pr_2, pr_2, pr_288230376151711447⟩
theorem pr_1152921504606845789 : Pr 1152921504606845789 := (all_1152921504606845789 _ rfl).2
theorem all_2305843009213691579 (n : Nat) (h : n = 2305843009213691579) : (∀ a, a % n ≠ 0 → a ^ (n - 1) % n = 1) ∧ Pr n := by
 refine lucas_pm (g := 2) (n := n) [2, 1152921504606845789] (by subst h; decide +kernel) (by subst h; decide +kernel) (by subst h; decide +kernel) ?_ (by subst h; decide +kernel) (by subst h; decide +kernel);simp only [List.forall_mem_cons, List.not_mem_nil, false_imp_iff, implies_true, and_true];exact ⟨pr_2, pr_1152921504606845789⟩
def rotr (n x : Nat) : Nat := x / 2 ^ n ||| x * 2 ^ (32 - n) % 4294967296
def bS0 (x : Nat) : Nat := (rotr 2 x ^^^ rotr 13 x) ^^^ rotr 22 x
def bS1 (x : Nat) : Nat := (rotr 6 x ^^^ rotr 11 x) ^^^ rotr 25 x
def sS0 (x : Nat) : Nat := (rotr 7 x ^^^ rotr 18 x) ^^^ x / 8
def sS1 (x : Nat) : Nat := (rotr 17 x ^^^ rotr 19 x) ^^^ x / 1024
def chS (e f g : Nat) : Nat := (e &&& f) ^^^ ((4294967295 - e) &&& g)
def majS (a b c : Nat) : Nat := ((a &&& b) ^^^ (a &&& c)) ^^^ (b &&& c)
def kS : List Nat := [
 0x428a2f98, 0x71374491, 0xb5c0fbcf, 0xe9b5dba5, 0x3956c25b, 0x59f111f1, 0x923f82a4, 0xab1c5ed5,
 0xd807aa98, 0x12835b01, 0x243185be, 0x550c7dc3, 0x72be5d74, 0x80deb1fe, 0x9bdc06a7, 0xc19bf174,
 0xe49b69c1, 0xefbe4786, 0x0fc19dc6, 0x240ca1cc, 0x2de92c6f, 0x4a7484aa, 0x5cb0a9dc, 0x76f988da,
 0x983e5152, 0xa831c66d, 0xb00327c8, 0xbf597fc7, 0xc6e00bf3, 0xd5a79147, 0x06ca6351, 0x14292967,
 0x27b70a85, 0x2e1b2138, 0x4d2c6dfc, 0x53380d13, 0x650a7354, 0x766a0abb, 0x81c2c92e, 0x92722c85,
 0xa2bfe8a1, 0xa81a664b, 0xc24b8b70, 0xc76c51a3, 0xd192e819, 0xd6990624, 0xf40e3585, 0x106aa070,
 0x19a4c116, 0x1e376c08, 0x2748774c, 0x34b0bcb5, 0x391c0cb3, 0x4ed8aa4a, 0x5b9cca4f, 0x682e6ff3,
 0x748f82ee, 0x78a5636f, 0x84c87814, 0x8cc70208, 0x90befffa, 0xa4506ceb, 0xbef9a3f7, 0xc67178f2]
def ivS : List Nat := [0x6a09e667, 0xbb67ae85, 0x3c6ef372, 0xa54ff53a, 0x510e527f, 0x9b05688c, 0x1f83d9ab, 0x5be0cd19]
def byteS (b : List UInt8) (i : Nat) : Nat := (b.getD i 0).toNat
def wordS (b : List UInt8) (i : Nat) : Nat := byteS b (4 * i) * 16777216 + byteS b (4 * i + 1) * 65536 + byteS b (4 * i + 2) * 256 + byteS b (4 * i + 3)
def nextS (l : List Nat) (i : Nat) : Nat := (l.getD (i - 16) 0 + sS0 (l.getD (i - 15) 0) + l.getD (i - 7) 0 + sS1 (l.getD (i - 2) 0)) % 4294967296
def schedS (b : List UInt8) : Nat → List Nat
 | 0 => []
 | i + 1 => schedS b i ++ [if i < 16 then wordS b i else nextS (schedS b i) i]
structure St where
 a : Nat
 b : Nat
 c : Nat
 d : Nat
 e : Nat
 f : Nat
 g : Nat
 h : Nat
def St.t (s : St) (k w : Nat) : Nat := (s.h + bS1 s.e + chS s.e s.f s.g + k + w) % 4294967296
def St.u (s : St) : Nat := (bS0 s.a + majS s.a s.b s.c) % 4294967296
def St.step (s : St) (k w : Nat) : St := ⟨(s.t k w + s.u) % 4294967296, s.a, s.b, s.c, (s.d + s.t k w) % 4294967296, s.e, s.f, s.g⟩
def stepsS (ws : List Nat) (s : St) : Nat → St
 | 0 => s
 | i + 1 => (stepsS ws s i).step (kS.getD i 0) (ws.getD i 0)
def St.list (s : St) : List Nat := [s.a, s.b, s.c, s.d, s.e, s.f, s.g, s.h]
def St.of (l : List Nat) : St := ⟨l.getD 0 0, l.getD 1 0, l.getD 2 0, l.getD 3 0, l.getD 4 0, l.getD 5 0, l.getD 6 0, l.getD 7 0⟩
def mixS (l : List Nat) (b : List UInt8) : List Nat := List.zipWith (fun x y => (x + y) % 4294967296) l (stepsS (schedS b 64) (St.of l) 64).list
def stateS (t : List UInt8) : Nat → List Nat
 | 0 => ivS
 | k + 1 => mixS (stateS t k) ((t.drop (64 * k)).take 64)
def lenS (n : Nat) : List UInt8 := (List.range 8).map fun i => UInt8.ofNat (n / 2 ^ (56 - 8 * i) % 256)
def zerosS (n : Nat) : Nat := (119 - n % 64) % 64
def padS (l : List UInt8) : List UInt8 := l ++ ([128] ++ List.replicate (zerosS l.length) 0 ++ lenS (l.length * 8))
def bytesS (l : List Nat) : List UInt8 := (List.range 32).map fun i => UInt8.ofNat (l.getD (i / 4) 0 / 2 ^ (24 - i % 4 * 8) % 256)
def shaS (l : List UInt8) : List UInt8 := bytesS (stateS (padS l) ((l.length + 72) / 64))
theorem xor32 {a b : Nat} (ha : a < 4294967296) (hb : b < 4294967296) : a ^^^ b < 4294967296 := Nat.xor_lt_two_pow (n := 32) ha hb
theorem and32 {a b : Nat} (ha : a < 4294967296) : a &&& b < 4294967296 := Nat.lt_of_le_of_lt Nat.and_le_left ha
theorem or32 {a b : Nat} (ha : a < 4294967296) (hb : b < 4294967296) : a ||| b < 4294967296 := Nat.or_lt_two_pow (n := 32) ha hb
theorem div32 {a : Nat} (n : Nat) (ha : a < 4294967296) : a / n < 4294967296 := Nat.lt_of_le_of_lt (Nat.div_le_self _ _) ha
theorem mod32 (a : Nat) : a % 4294967296 < 4294967296 := Nat.mod_lt _ (by decide)
theorem rotr_lt {x : Nat} (n : Nat) (hx : x < 4294967296) : rotr n x < 4294967296 := or32 (div32 _ hx) (mod32 _)
theorem sS0_lt {x : Nat} (h : x < 4294967296) : sS0 x < 4294967296 := xor32 (xor32 (rotr_lt _ h) (rotr_lt _ h)) (div32 _ h)
theorem sS1_lt {x : Nat} (h : x < 4294967296) : sS1 x < 4294967296 := xor32 (xor32 (rotr_lt _ h) (rotr_lt _ h)) (div32 _ h)
theorem byteS_lt (b : List UInt8) (i : Nat) : byteS b i < 256 := UInt8.toNat_lt _
def pwS (b : List UInt8) (j : Nat) : Nat → Nat
 | 0 => 0
 | m + 1 => pwS b j m * 256 + byteS b (4 * j + m)
theorem pwS_lt (b : List UInt8) (j : Nat) : ∀ m, pwS b j m < 256 ^ m
 | 0 => Nat.one_pos
 | m + 1 => by
   have h1 := pwS_lt b j m;have h2 := byteS_lt b (4 * j + m);have h3 : (pwS b j m + 1) * 256 ≤ 256 ^ m * 256 := Nat.mul_le_mul_right _ h1;rw [Nat.pow_succ];show pwS b j m * 256 + byteS b (4 * j + m) < _
   omega
theorem pwS_four (b : List UInt8) (j : Nat) : pwS b j 4 = wordS b j := by
 unfold wordS;simp only [pwS, Nat.add_zero]
 omega
theorem wordS_lt (b : List UInt8) (j : Nat) : wordS b j < 4294967296 := by rw [← pwS_four]; exact pwS_lt b j 4
def fillS (b : List UInt8) (k : Nat) : List Nat := (List.range 64).map fun j => pwS b j (min 4 (k - 4 * j))
theorem fillS_len (b : List UInt8) (k : Nat) : (fillS b k).length = 64 := by simp [fillS]
theorem fillS_get (b : List UInt8) (k : Nat) {j : Nat} (hj : j < 64) : (fillS b k)[j]? = some (pwS b j (min 4 (k - 4 * j))) := by
 simp [fillS, hj]
theorem fillS_cur (b : List UInt8) {k : Nat} (hk : k < 64) : (fillS b k)[k / 4]? = some (pwS b (k / 4) (k % 4)) := by
 rw [fillS_get b k (by omega), show min 4 (k - 4 * (k / 4)) = k % 4 by omega]
theorem fillS_set (b : List UInt8) (k : Nat) : (fillS b k).set (k / 4) (pwS b (k / 4) (k % 4) * 256 + byteS b k) = fillS b (k + 1) := by
 apply List.ext_getElem?
 intro j
 rcases Nat.lt_or_ge j 64 with hj | hj
 ·rw [List.getElem?_set, fillS_get b (k + 1) hj]
  by_cases e : k / 4 = j
  ·subst e;rw [if_pos rfl, if_pos (by rw [fillS_len]; exact hj), show min 4 (k + 1 - 4 * (k / 4)) = k % 4 + 1 by omega];show _ = some (pwS b (k / 4) (k % 4) * 256 + byteS b (4 * (k / 4) + k % 4));rw [Nat.div_add_mod]
  ·rw [if_neg e, fillS_get b k hj, show min 4 (k + 1 - 4 * j) = min 4 (k - 4 * j) by omega]
 ·rw [List.getElem?_eq_none (by rw [List.length_set, fillS_len]; exact hj), List.getElem?_eq_none (by rw [fillS_len]; exact hj)]
theorem fillS_zero (b : List UInt8) : fillS b 0 = List.replicate 64 0 := by
 apply List.ext_getElem?
 intro j
 rcases Nat.lt_or_ge j 64 with hj | hj
 ·rw [fillS_get b 0 hj, List.getElem?_replicate, if_pos hj, Nat.zero_sub]; rfl
 ·rw [List.getElem?_eq_none (by rw [fillS_len]; exact hj), List.getElem?_eq_none (by simpa using hj)]
theorem schedS_len (b : List UInt8) : ∀ i, (schedS b i).length = i
 | 0 => rfl
 | i + 1 => by simp [schedS, schedS_len b i]
theorem schedS_lt (b : List UInt8) : ∀ i, ∀ x ∈ schedS b i, x < 4294967296
 | 0, x, h => by cases h
 | i + 1, x, h => by
   rcases List.mem_append.1 h with h | h
   ·exact schedS_lt b i x h
   ·obtain rfl := List.mem_singleton.1 h
    split
    ·exact wordS_lt _ _
    ·exact mod32 _
theorem schedS_get (b : List UInt8) : ∀ (n i : Nat), i ≤ n → ∀ j, j < i → (schedS b n)[j]? = (schedS b i)[j]?
 | 0, i, h, j, hj => by omega
 | n + 1, i, h, j, hj => by
   rcases Nat.lt_or_ge n i with h1 | h1
   ·obtain rfl : i = n + 1 := by omega
    rfl
   ·rw [← schedS_get b n i h1 j hj];exact List.getElem?_append_left (by rw [schedS_len]; omega)
theorem getD_lt {l : List Nat} (h : ∀ x ∈ l, x < 4294967296) (j : Nat) : l.getD j 0 < 4294967296 := by
 rw [List.getD_eq_getElem?_getD]
 cases e : l[j]? with
 | none => decide
 | some x => exact h x (List.mem_of_getElem? e)
theorem fillS_end (b : List UInt8) : fillS b 64 = schedS b 16 ++ List.replicate 48 0 := by
 apply List.ext_getElem?
 intro j
 rcases Nat.lt_or_ge j 16 with hj | hj
 ·rw [fillS_get b 64 (by omega), List.getElem?_append_left (by rw [schedS_len]; exact hj), schedS_get b 16 (j + 1) (by omega) j (by omega), show min 4 (64 - 4 * j) = 4 by omega, pwS_four];show _ = (schedS b j ++ [if j < 16 then wordS b j else nextS (schedS b j) j])[j]?;rw [List.getElem?_append_right (by rw [schedS_len]; exact Nat.le_refl _), schedS_len, Nat.sub_self, if_pos hj]; rfl
 ·rcases Nat.lt_or_ge j 64 with h64 | h64
  ·rw [fillS_get b 64 h64, List.getElem?_append_right (by rw [schedS_len]; exact hj), schedS_len, List.getElem?_replicate, if_pos (by omega), show min 4 (64 - 4 * j) = 0 by omega]; rfl
  ·rw [List.getElem?_eq_none (by rw [fillS_len]; exact h64), List.getElem?_eq_none (by rw [List.length_append, schedS_len]; simp; omega)]
theorem sched_set (b : List UInt8) {i : Nat} (h0 : 16 ≤ i) (hi : i < 64) : (schedS b i ++ List.replicate (64 - i) 0).set i (nextS (schedS b i) i) = schedS b (i + 1) ++ List.replicate (64 - (i + 1)) 0 := by
 rw [List.set_append_right _ _ (by rw [schedS_len]; exact Nat.le_refl _), schedS_len, Nat.sub_self, show 64 - i = (64 - (i + 1)) + 1 by omega, List.replicate_succ, List.set_cons_zero];show _ = (schedS b i ++ [if i < 16 then wordS b i else nextS (schedS b i) i]) ++ _;rw [if_neg (by omega), List.append_assoc]; rfl
theorem sched_word (b : List UInt8) {i : Nat} (hi : i < 16) : (schedS b i ++ List.replicate (64 - i) 0).set i (wordS b i) = schedS b (i + 1) ++ List.replicate (64 - (i + 1)) 0 := by
 rw [List.set_append_right _ _ (by rw [schedS_len]; exact Nat.le_refl _), schedS_len, Nat.sub_self, show 64 - i = (64 - (i + 1)) + 1 by omega, List.replicate_succ, List.set_cons_zero];show _ = (schedS b i ++ [if i < 16 then wordS b i else nextS (schedS b i) i]) ++ _;rw [if_pos hi, List.append_assoc]; rfl
theorem sched_at (b : List UInt8) {i j n : Nat} (hj : j < i) : (schedS b i ++ List.replicate n 0)[j]? = some ((schedS b i).getD j 0) := by
 rw [List.getElem?_append_left (by rw [schedS_len]; exact hj), List.getD_eq_getElem?_getD, List.getElem?_eq_getElem (by rw [schedS_len]; exact hj)]; rfl
structure St.Ok (s : St) : Prop where
 a : s.a < 4294967296
 b : s.b < 4294967296
 c : s.c < 4294967296
 d : s.d < 4294967296
 e : s.e < 4294967296
 f : s.f < 4294967296
 g : s.g < 4294967296
 h : s.h < 4294967296
theorem St.Ok.step {s : St} (h : s.Ok) (k w : Nat) : (s.step k w).Ok := ⟨mod32 _, h.a, h.b, h.c, mod32 _, h.e, h.f, h.g⟩
theorem steps_ok {s : St} (h : s.Ok) (ws : List Nat) : ∀ i, (stepsS ws s i).Ok
 | 0 => h
 | i + 1 => (steps_ok h ws i).step _ _
structure Eight (l : List Nat) : Prop where
 len : l.length = 8
 lt : ∀ x ∈ l, x < 4294967296
theorem Eight.of {l : List Nat} (h : Eight l) : (St.of l).Ok := ⟨getD_lt h.lt _, getD_lt h.lt _, getD_lt h.lt _, getD_lt h.lt _, getD_lt h.lt _, getD_lt h.lt _, getD_lt h.lt _, getD_lt h.lt _⟩
theorem mixS_eight {l : List Nat} (h : Eight l) (b : List UInt8) : Eight (mixS l b) := by
 refine ⟨by unfold mixS; rw [List.length_zipWith, h.len]; rfl, fun x hx => ?_⟩;unfold mixS at hx;obtain ⟨i, hi⟩ := List.mem_iff_getElem?.1 hx;rw [List.getElem?_zipWith] at hi
 split at hi
 ·obtain rfl := Option.some.inj hi;exact mod32 _
 ·cases hi
theorem ivS_eight : Eight ivS := ⟨rfl, fun x hx => by
 simp only [ivS, List.mem_cons, List.not_mem_nil, or_false] at hx
 omega⟩
theorem stateS_eight (t : List UInt8) : ∀ k, Eight (stateS t k)
 | 0 => ivS_eight
 | k + 1 => mixS_eight (stateS_eight t k) _
theorem eight_of {l : List Nat} (h : Eight l) : ∃ a b c d e f g k : Nat, l = [a, b, c, d, e, f, g, k] ∧ a < 4294967296 ∧ b < 4294967296 ∧ c < 4294967296 ∧ d < 4294967296 ∧ e < 4294967296 ∧ f < 4294967296 ∧ g < 4294967296 ∧ k < 4294967296 := by
 obtain ⟨hl, hlt⟩ := h
 match l, hl with
 | [a, b, c, d, e, f, g, k], _ => exact ⟨a, b, c, d, e, f, g, k, rfl, hlt a (by simp), hlt b (by simp), hlt c (by simp), hlt d (by simp), hlt e (by simp), hlt f (by simp), hlt g (by simp), hlt k (by simp)⟩
def restS (l : List UInt8) : List UInt8 := l.drop (l.length / 64 * 64) ++ ([128] ++ List.replicate (zerosS l.length) 0 ++ lenS (l.length * 8))
theorem lenS_len (n : Nat) : (lenS n).length = 8 := by simp [lenS]
theorem padS_rest (l : List UInt8) : padS l = l.take (l.length / 64 * 64) ++ restS l := by
 unfold padS restS;rw [← List.append_assoc (List.take _ l) (List.drop _ l), List.take_append_drop]
theorem restS_len (l : List UInt8) : (restS l).length = 64 * ((l.length + 72) / 64) - l.length / 64 * 64 := by
 unfold restS zerosS;simp only [List.length_append, List.length_drop, List.length_cons, List.length_nil, List.length_replicate, lenS_len]
 omega
theorem padS_len (l : List UInt8) : (padS l).length = 64 * ((l.length + 72) / 64) := by
 rw [padS_rest, List.length_append, restS_len, List.length_take]
 omega
theorem pad_block {l : List UInt8} {k : Nat} (h : 64 * (k + 1) ≤ l.length) : ((padS l).drop (64 * k)).take 64 = (l.drop (64 * k)).take 64 := by
 unfold padS;rw [List.drop_append_of_le_length (by omega), List.take_append_of_le_length (by rw [List.length_drop]; omega)]
theorem pad_rest (l : List UInt8) (j : Nat) : ((padS l).drop (64 * (l.length / 64 + j))).take 64 = ((restS l).drop (64 * j)).take 64 := by
 rw [padS_rest, List.drop_append, List.drop_of_length_le (by rw [List.length_take]; omega), List.nil_append, List.length_take, show 64 * (l.length / 64 + j) - min (l.length / 64 * 64) l.length = 64 * j by omega]
theorem sha_len (l : List UInt8) : (shaS l).length = 32 := by simp [shaS, bytesS]
theorem bytesS_len (l : List Nat) : (bytesS l).length = 32 := by simp [bytesS]
end Go.Proofs.YtkpinmejfdnhbaaGreatDoor
namespace Go.Proofs.YtkpinmejfdnhbaaGreatDoor
open Go.Lib (decDigits)
def decI (z : Int) : List UInt8 := if z < 0 then 45 :: decDigits z.natAbs else decDigits z.natAbs
def hexD (n : Nat) : UInt8 := if n < 10 then UInt8.ofNat (48 + n) else UInt8.ofNat (87 + n)
def hexL (l : List UInt8) : List UInt8 := l.flatMap fun b => [hexD (b.toNat / 16), hexD (b.toNat % 16)]
theorem hexL_len (l : List UInt8) : (hexL l).length = 2 * l.length := by
 induction l with
 | nil => rfl
 | cons b l ih => show (hexD (b.toNat / 16) :: hexD (b.toNat % 16) :: hexL l).length = _; simp only [List.length_cons, ih]; omega
theorem hexL_cons (b : UInt8) (l : List UInt8) : hexL (b :: l) = hexD (b.toNat / 16) :: hexD (b.toNat % 16) :: hexL l := rfl
theorem dec_no {m : UInt8} (hm : isD m = false) (n : Nat) : m ∉ decDigits n := fun h => by
 have := List.all_eq_true.1 (dec_all n) m h;rw [hm] at this; cases this
theorem decI_no {m : UInt8} (hm : isD m = false) (h45 : m ≠ 45) (z : Int) : m ∉ decI z := by
 unfold decI
 split
 ·intro h
  rcases List.mem_cons.1 h with h | h
  ·exact h45 h
  ·exact dec_no hm _ h
 ·exact dec_no hm _
theorem dec_inj' {m n : Nat} (h : decDigits m = decDigits n) : m = n := by rw [← dec_val m, h, dec_val]
theorem decI_inj {a b : Int} (h : decI a = decI b) : a = b := by
 have hd : ∀ n : Nat, (decDigits n).head? ≠ some 45 := fun n e => by
  cases k : decDigits n with
  | nil => rw [k] at e; cases e
  | cons x t =>
    rw [k] at e;have hx : x = 45 := Option.some.inj e;exact dec_no (m := 45) (by decide) n (by rw [k, hx]; simp)
 unfold decI at h
 split at h <;> split at h
 ·have := dec_inj' (List.cons.inj h).2; omega
 ·exact absurd (by rw [← h]; rfl) (hd b.natAbs)
 ·exact absurd (by rw [h]; rfl) (hd a.natAbs)
 ·have := dec_inj' h; omega
end Go.Proofs.YtkpinmejfdnhbaaGreatDoor
namespace Go.Proofs.YtkpinmejfdnhbaaGreatDoor
end Go.Proofs.YtkpinmejfdnhbaaGreatDoor
namespace Go.Proofs.YtkpinmejfdnhbaaGreatDoor
open Go.Lib (decDigits)
end Go.Proofs.YtkpinmejfdnhbaaGreatDoor
namespace Go.Proofs.YtkpinmejfdnhbaaGreatDoor
open Go.Lib
theorem decI_nat (n : Nat) : decI (n : Int) = decDigits n := by
 unfold decI;rw [if_neg (by omega), Int.natAbs_natCast]
def strB (l : List UInt8) : ByteArray := ⟨l.toArray⟩
theorem strB_list (l : List UInt8) : (strB l).data.toList = l := by simp [strB]
theorem strB_size (l : List UInt8) : (strB l).size = l.length := by show l.toArray.size = _; simp
theorem strB_inj {a b : List UInt8} (h : strB a = strB b) : a = b := by rw [← strB_list a, h, strB_list]
end Go.Proofs.YtkpinmejfdnhbaaGreatDoor
