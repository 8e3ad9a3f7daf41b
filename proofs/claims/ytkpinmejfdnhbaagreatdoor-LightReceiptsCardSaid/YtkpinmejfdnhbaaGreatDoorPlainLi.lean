/- Joined by a program: PlainGrp, PlainLag, PlainHdr, PlainTree. -/
import Derived.Test.YtkpinmejfdnhbaaGreatDoorPlainAll
import Derived.Test.YtkpinmejfdnhbaaGreatDoorPlainMore
namespace Go.Proofs.YtkpinmejfdnhbaaGreatDoor
/-! ### the group -/
def pG : Nat := 2305843009213691579
def qG : Nat := 1152921504606845789
def gP (n : Nat) : Nat := pm pG 64 4 n
def memB (a : Int) : Bool := decide (1 ≤ a) && decide (a ≤ 2305843009213691578) && pm pG 64 a.toNat qG == 1
theorem pow_red {b p q : Nat} (h1 : 1 < p) (h : b ^ q % p = 1) (n : Nat) : b ^ n % p = b ^ (n % q) % p := by
 have e : b ^ n = b ^ (q * (n / q)) * b ^ (n % q) := by rw [← Nat.pow_add, Nat.div_add_mod]
 rw [e, Nat.mul_mod, pow_one_mod h1 h, Nat.one_mul, Nat.mod_mod]
theorem order_any (p q : Nat) (hp : p = 2305843009213691579) (hq : q = 1152921504606845789) : 4 ^ q % p = 1 := by
 have h := (all_2305843009213691579 p hp).1 2 (by subst hp; decide);rw [show p - 1 = 2 * q by omega, Nat.pow_mul] at h;exact h
theorem pq_facts (p q : Nat) (hp : p = 2305843009213691579) (hq : q = 1152921504606845789) : 1 < p ∧ 0 < q ∧ q < 2 ^ 64 ∧ p = 2 * q + 1 ∧ p < 2 ^ 62 ∧ q < 2 ^ 61 := by subst hp; subst hq; decide
theorem pG_gt : 1 < pG := (pq_facts pG qG rfl rfl).1
theorem qG_pos : 0 < qG := (pq_facts pG qG rfl rfl).2.1
theorem qG_gt : 1 < qG := by have := (pq_facts pG qG rfl rfl).2.2.2.1; have h2 : qG = 1152921504606845789 := rfl; omega
theorem qG_64 : qG < 2 ^ 64 := (pq_facts pG qG rfl rfl).2.2.1
theorem g_order : 4 ^ qG % pG = 1 := order_any pG qG rfl rfl
theorem gP_eq {n : Nat} (h : n < 2 ^ 64) : gP n = 4 ^ n % pG := pm_eq pG 64 4 n h
theorem gP_lt (n : Nat) (h : n < 2 ^ 64) : gP n < pG := by rw [gP_eq h]; exact Nat.mod_lt _ (by have := pG_gt; omega)
theorem g_mod (n : Nat) : 4 ^ n % pG = gP (n % qG) := by
 have h : n % qG < 2 ^ 64 := Nat.lt_trans (Nat.mod_lt _ qG_pos) qG_64;rw [gP_eq h]; exact pow_red pG_gt g_order n
theorem gP_mul (a b : Nat) (ha : a < 2 ^ 64) (hb : b < 2 ^ 64) : gP a * gP b % pG = gP ((a + b) % qG) := by
 rw [gP_eq ha, gP_eq hb, ← Nat.mul_mod, ← Nat.pow_add, g_mod]
theorem gP_pow (a b : Nat) (ha : a < 2 ^ 64) : gP a ^ b % pG = gP (a * b % qG) := by
 rw [gP_eq ha, ← Nat.pow_mod, ← Nat.pow_mul, g_mod]
theorem gP_zero : gP 0 = 1 := by
 have h := pG_gt;rw [gP_eq (by omega), Nat.pow_zero, Nat.mod_eq_of_lt h]
theorem gP_pos (n : Nat) (h : n < 2 ^ 64) : 0 < gP n := by
 rcases Nat.eq_zero_or_pos (gP n) with e | e
 ·have h1 := gP_pow n qG h;rw [e, Nat.mul_mod_left, gP_zero] at h1;have h2 := pG_gt;rw [Nat.zero_pow qG_pos, Nat.zero_mod] at h1
  cases h1
 ·exact e
theorem mem_g (n : Nat) (h : n < 2 ^ 64) : memB (gP n : Int) = true := by
 have h1 := gP_pos n h;have h2 := gP_lt n h;have h3 : (gP n) ^ qG % pG = 1 := by rw [gP_pow n qG h, Nat.mul_mod_left, gP_zero]
 unfold memB;rw [Int.toNat_natCast, pm_eq pG 64 _ _ qG_64, h3];have h4 : pG = 2305843009213691579 := rfl;rw [h4] at h2;simp only [BEq.rfl, Bool.and_true, Bool.and_eq_true, decide_eq_true_eq]
 omega
theorem memB_low {a : Int} (h : memB a = true) : ∃ n : Nat, a = (n : Int) ∧ 1 ≤ n ∧ n < pG ∧ n ^ qG % pG = 1 := by
 unfold memB at h;simp only [Bool.and_eq_true, decide_eq_true_eq] at h;obtain ⟨⟨h1, h2⟩, h3⟩ := h;refine ⟨a.toNat, by omega, by omega, by have h4 : pG = 2305843009213691579 := rfl; rw [h4]; omega, ?_⟩;rw [← pm_eq pG 64 _ _ qG_64];exact beq_iff_eq.1 h3
/-! ### scalars, signatures -/
def numH (h : List UInt8) : Nat := bv (h.take 8) % 2 ^ 63
def scalN (l : List UInt8) : Nat := numH (shaS ([115, 47] ++ l)) % qG
theorem scal_lt (l : List UInt8) : scalN l < qG := Nat.mod_lt _ qG_pos
def posN (n : Nat) : Nat := if n = 0 then 1 else n
theorem pos_lt {n : Nat} (h : n < qG) : 1 ≤ posN n ∧ posN n < qG := by
 unfold posN;have h1 : 1 < qG := by
  have := pq_facts pG qG rfl rfl;have h2 : qG = 1152921504606845789 := rfl
  omega
 split <;> omega
def keyN (seed : List UInt8) : Nat := posN (scalN (107 :: seed))
def challN (r key : Nat) (text : List UInt8) : Nat := scalN (99 :: (lenS r ++ (lenS key ++ text)))
def signN (x : Nat) (text : List UInt8) : Nat × Nat :=
 (gP (posN (scalN (110 :: (lenS x ++ text)))), (posN (scalN (110 :: (lenS x ++ text))) + x * challN (gP (posN (scalN (110 :: (lenS x ++ text))))) (gP x) text % qG) % qG)
def verS (key : Int) (text : List UInt8) (r s : Int) : Bool :=
 memB key && memB r && decide (0 ≤ s) && decide (s < 1152921504606845789) && gP s.toNat == r.toNat * pm pG 64 key.toNat (challN r.toNat key.toNat text) % pG
theorem ver_sign (x : Nat) (hx : x < qG) (text : List UInt8) : verS (gP x : Int) text ((signN x text).1 : Int) ((signN x text).2 : Int) = true := by
 have hx64 : x < 2 ^ 64 := Nat.lt_trans hx qG_64;have hn := pos_lt (scal_lt (110 :: (lenS x ++ text)));unfold verS signN;generalize posN (scalN (110 :: (lenS x ++ text))) = n at hn ⊢;have hn64 : n < 2 ^ 64 := Nat.lt_trans hn.2 qG_64;have hc := scal_lt (99 :: (lenS (gP n) ++ (lenS (gP x) ++ text)));dsimp only;unfold challN;rw [Int.toNat_natCast, Int.toNat_natCast, Int.toNat_natCast, mem_g x hx64, mem_g n hn64];generalize scalN (99 :: (lenS (gP n) ++ (lenS (gP x) ++ text))) = c at hc ⊢;have hs : (n + x * c % qG) % qG < qG := Nat.mod_lt _ qG_pos;have hq : qG = 1152921504606845789 := rfl;rw [pm_eq pG 64 _ _ (Nat.lt_trans hc qG_64), gP_pow x c hx64, gP_mul n _ hn64 (Nat.lt_trans (Nat.mod_lt _ qG_pos) qG_64), BEq.rfl];rw [hq] at hs;simp only [Bool.and_true, Bool.true_and, Bool.and_eq_true, decide_eq_true_eq];rw [hq];generalize (n + x * c % 1152921504606845789) % 1152921504606845789 = s at hs ⊢
 omega
section
variable {q : Nat} [NeZero q] (inv : Fin q → Fin q)
def sumF (f : Fin q → Fin q) : List (Fin q) → Fin q
 | [] => 0
 | x :: xs => f x + sumF f xs
theorem sumF_congr {f g : Fin q → Fin q} : ∀ {xs : List (Fin q)}, (∀ x ∈ xs, f x = g x) → sumF f xs = sumF g xs
 | [], _ => rfl
 | x :: xs, h => by
   show f x + sumF f xs = g x + sumF g xs;rw [h x (List.mem_cons_self ..), sumF_congr fun y hy => h y (List.mem_cons_of_mem _ hy)]
theorem sumF_add (f g : Fin q → Fin q) : ∀ xs : List (Fin q), sumF (fun x => f x + g x) xs = sumF f xs + sumF g xs
 | [] => by simp [sumF]
 | x :: xs => by
   show f x + g x + sumF _ xs = _ + (g x + sumF g xs);rw [sumF_add f g xs];show f x + g x + (sumF f xs + sumF g xs) = f x + sumF f xs + (g x + sumF g xs)
   grind
theorem sumF_mul (c : Fin q) (f : Fin q → Fin q) : ∀ xs : List (Fin q), sumF (fun x => c * f x) xs = c * sumF f xs
 | [] => by simp only [sumF]; grind
 | x :: xs => by
   show c * f x + sumF _ xs = c * (f x + sumF f xs);rw [sumF_mul c f xs]
   grind
def prodF (x : Fin q) : List (Fin q) → Fin q
 | [] => 1
 | y :: ys => y * inv (y - x) * prodF x ys
def lagF (xs : List (Fin q)) (x : Fin q) : Fin q := prodF inv x (xs.filter (· ≠ x))
theorem lag_cons {xs : List (Fin q)} {z x : Fin q} (h : z ≠ x) : lagF inv (z :: xs) x = z * inv (z - x) * lagF inv xs x := by
 unfold lagF;rw [List.filter_cons_of_pos (by simpa using h)]
 rfl
theorem lag_self {xs : List (Fin q)} {z : Fin q} (h : z ∉ xs) : lagF inv (z :: xs) z = prodF inv z xs := by
 unfold lagF;rw [List.filter_cons_of_neg (by simp), List.filter_eq_self.2 fun x hx => by simp; rintro rfl; exact h hx]
def Apart (xs : List (Fin q)) : Prop := xs.Pairwise fun x y => (x - y) * inv (x - y) = 1 ∧ (y - x) * inv (y - x) = 1 ∧ x ≠ y
theorem lag_A : ∀ (xs : List (Fin q)) (y : Fin q), xs ≠ [] → Apart inv (y :: xs) → prodF inv y xs = sumF (fun x => lagF inv xs x * (x * inv (x - y))) xs
 | [], _, h, _ => absurd rfl h
 | [x], y, _, _ => by
   have : lagF inv [x] x = 1 := by simp [lagF, prodF]
   simp only [sumF, prodF, this]
   grind
 | z :: w :: xs, y, _, h => by
   obtain ⟨h1, h2⟩ := List.pairwise_cons.1 h;obtain ⟨h3, h4⟩ := List.pairwise_cons.1 h2;have hz : z ∉ w :: xs := fun hm => (h3 z hm).2.2 rfl;have ih1 := lag_A (w :: xs) y (by simp) (List.pairwise_cons.2 ⟨fun x hx => h1 x (List.mem_cons_of_mem _ hx), h4⟩);have ih2 := lag_A (w :: xs) z (by simp) (List.pairwise_cons.2 ⟨h3, h4⟩);show z * inv (z - y) * prodF inv y (w :: xs) = lagF inv (z :: w :: xs) z * (z * inv (z - y)) + sumF _ (w :: xs);rw [lag_self inv hz, ih2, ih1];generalize w :: xs = l at h1 h2 h3 h4 hz;have hy := h1 z (List.mem_cons_self ..);have key : ∀ x ∈ l, lagF inv (z :: l) x * (x * inv (x - y)) = (z * inv (z - y)) * (lagF inv l x * (x * inv (x - y))) + (- (z * inv (z - y))) * (lagF inv l x * (x * inv (x - z))) := fun x hx => by
    have a1 := h3 x hx;have a2 := h1 x (List.mem_cons_of_mem _ hx);rw [lag_cons inv a1.2.2];generalize lagF inv l x = f;obtain ⟨e1, e2, -⟩ := a1;obtain ⟨e3, e4, -⟩ := a2;obtain ⟨e5, e6, -⟩ := hy;generalize inv (z - x) = u1 at *;generalize inv (x - z) = u2 at *;generalize inv (y - x) = u3 at *;generalize inv (x - y) = u4 at *;generalize inv (y - z) = u5 at *;generalize inv (z - y) = u6 at *
    grind
   rw [sumF_congr key, sumF_add, sumF_mul, sumF_mul]
   grind
theorem lag_one : ∀ (xs : List (Fin q)), xs ≠ [] → Apart inv xs → sumF (fun x => lagF inv xs x) xs = 1
 | [], h, _ => absurd rfl h
 | [x], _, _ => by
   have : lagF inv [x] x = 1 := by simp [lagF, prodF]
   simp only [sumF, this]
   grind
 | z :: w :: xs, _, h => by
   obtain ⟨h3, h4⟩ := List.pairwise_cons.1 h;have hz : z ∉ w :: xs := fun hm => (h3 z hm).2.2 rfl;have ih := lag_one (w :: xs) (by simp) h4;have hA := lag_A inv (w :: xs) z (by simp) h;show lagF inv (z :: w :: xs) z + sumF _ (w :: xs) = 1;rw [lag_self inv hz, hA];generalize w :: xs = l at h3 h4 hz ih;have key : ∀ x ∈ l, lagF inv (z :: l) x = lagF inv l x + (-1) * (lagF inv l x * (x * inv (x - z))) := fun x hx => by
    have a1 := h3 x hx;rw [lag_cons inv a1.2.2];generalize lagF inv l x = f;obtain ⟨e1, e2, -⟩ := a1;generalize inv (z - x) = u1 at *;generalize inv (x - z) = u2 at *
    grind
   rw [sumF_congr key, sumF_add, sumF_mul, ih]
   grind
def evalF (x : Fin q) : List (Fin q) → Fin q
 | [] => 0
 | a :: t => a + x * evalF x t
theorem divF (z : Fin q) : ∀ (a : Fin q) (c : List (Fin q)), ∃ d : List (Fin q), d.length = c.length ∧ ∀ x, evalF x (a :: c) = evalF z (a :: c) + (x - z) * evalF x d
 | a, [] => ⟨[], rfl, fun x => by simp only [evalF]; grind⟩
 | a, b :: c => by
   obtain ⟨d, hd, h⟩ := divF z b c;refine ⟨evalF z (b :: c) :: d, by simp [hd], fun x => ?_⟩;show a + x * evalF x (b :: c) = a + z * evalF z (b :: c) + (x - z) * (evalF z (b :: c) + x * evalF x d);rw [h x]
   grind
theorem lag_main : ∀ (xs c : List (Fin q)), Apart inv xs → xs ≠ [] → c.length ≤ xs.length → sumF (fun x => lagF inv xs x * evalF x c) xs = evalF 0 c
 | [], _, _, h, _ => absurd rfl h
 | [x], c, _, _, hl => by
   have : lagF inv [x] x = 1 := by simp [lagF, prodF]
   simp only [sumF, this]
   match c, hl with
   | [], _ => simp only [evalF]; grind
   | [a], _ => simp [evalF]; grind
   | a :: b :: c, hl => simp at hl
 | z :: w :: xs, [], _, _, _ => by
   have e : ∀ xs : List (Fin q), sumF (fun _ => (0 : Fin q)) xs = 0 := fun xs => by
    induction xs with
    | nil => rfl
    | cons x xs ih => show 0 + sumF _ xs = 0; rw [ih]; grind
   simp only [evalF];rw [sumF_congr (g := fun _ => 0) (fun x _ => by grind)];exact e _
 | z :: w :: xs, a :: c, h, _, hl => by
   obtain ⟨d, hd, hdiv⟩ := divF z a c;obtain ⟨h3, h4⟩ := List.pairwise_cons.1 h;have hz : z ∉ w :: xs := fun hm => (h3 z hm).2.2 rfl;have ih := lag_main (w :: xs) d h4 (by simp) (by rw [hd]; simp at hl; simpa using hl);have h1 := lag_one inv (z :: w :: xs) (by simp) h;have key1 : ∀ x ∈ z :: w :: xs, lagF inv (z :: w :: xs) x * evalF x (a :: c) = evalF z (a :: c) * lagF inv (z :: w :: xs) x + lagF inv (z :: w :: xs) x * ((x - z) * evalF x d) := fun x _ => by
    rw [hdiv x]; grind
   rw [sumF_congr key1, sumF_add, sumF_mul, h1];have e2 : sumF (fun x => lagF inv (z :: w :: xs) x * ((x - z) * evalF x d)) (z :: w :: xs) = - z * evalF 0 d := by
    show lagF inv (z :: w :: xs) z * ((z - z) * evalF z d) + sumF _ (w :: xs) = _;rw [← ih, ← sumF_mul]
    rw [sumF_congr (xs := w :: xs) (g := fun x => - z * (lagF inv (w :: xs) x * evalF x d)) (fun x hx => by
     have a1 := h3 x hx;rw [lag_cons inv a1.2.2];obtain ⟨e1, e2, -⟩ := a1;generalize lagF inv (w :: xs) x = f;generalize inv (z - x) = u at *;generalize evalF x d = p
     grind)]
    grind
   rw [e2, hdiv 0]
   grind
end
/-! ### numbers -/
instance : NeZero qG := ⟨Nat.pos_iff_ne_zero.1 qG_pos⟩
def fq (n : Nat) : Fin qG := Fin.ofNat qG n
theorem fq_val (n : Nat) : (fq n).val = n % qG := rfl
theorem fq_eq {a b : Nat} : fq a = fq b ↔ a % qG = b % qG := ⟨fun h => by rw [← fq_val a, ← fq_val b, h], fun h => Fin.ext h⟩
theorem fq_mod (n : Nat) : fq (n % qG) = fq n := fq_eq.2 (Nat.mod_mod _ _)
theorem fq_add (a b : Nat) : fq (a + b) = fq a + fq b := Fin.ext (by rw [Fin.val_add, fq_val, fq_val, fq_val, ← Nat.add_mod])
theorem fq_mul (a b : Nat) : fq (a * b) = fq a * fq b := Fin.ext (by rw [Fin.val_mul, fq_val, fq_val, fq_val, ← Nat.mul_mod])
theorem fq_zero : fq 0 = 0 := rfl
theorem fq_one : fq 1 = 1 := rfl
theorem fq_self : fq qG = 0 := by rw [← fq_zero]; exact fq_eq.2 (by rw [Nat.mod_self, Nat.zero_mod])
def invN (a : Nat) : Nat := pm qG 64 a (qG - 2)
theorem invN_lt (a : Nat) : invN a < qG := by
 unfold invN;rw [pm_eq qG 64 _ _ (by have := qG_64; omega)];exact Nat.mod_lt _ qG_pos
theorem inv_any (q : Nat) (hq : q = 1152921504606845789) (a : Nat) (h : a % q ≠ 0) : a * (a ^ (q - 2) % q) % q = 1 := by
 have h1 := (all_1152921504606845789 q hq).1 a h;rw [Nat.mul_mod, Nat.mod_mod, ← Nat.mul_mod, Nat.mul_comm, ← Nat.pow_succ];show a ^ (q - 2 + 1) % q = 1;rw [show q - 2 + 1 = q - 1 by omega];exact h1
theorem inv_mul (a : Nat) (h : a % qG ≠ 0) : a * invN a % qG = 1 := by
 unfold invN;rw [pm_eq qG 64 _ _ (by have := qG_64; omega)];exact inv_any qG rfl a h
theorem inv_only {a b : Nat} (hb : b < qG) (h : a * b % qG = 1) : b = invN a := by
 have h0 : a % qG ≠ 0 := fun e => by
  rw [Nat.mul_mod, e, Nat.zero_mul, Nat.zero_mod] at h; cases h
 have h1 := inv_mul a h0;have e1 : fq a * fq b = 1 := by rw [← fq_mul, ← fq_one]; exact fq_eq.2 (by rw [h, Nat.mod_eq_of_lt qG_gt])
 have e2 : fq a * fq (invN a) = 1 := by rw [← fq_mul, ← fq_one]; exact fq_eq.2 (by rw [h1, Nat.mod_eq_of_lt qG_gt])
 have e3 : fq b = fq (invN a) := by grind
 have e4 := fq_eq.1 e3;rwa [Nat.mod_eq_of_lt hb, Nat.mod_eq_of_lt (invN_lt a)] at e4
def valN (x : Nat) : List Nat → Nat
 | [] => 0
 | a :: t => (valN x t * x % qG + a) % qG
theorem valN_lt (x : Nat) (l : List Nat) : valN x l < qG := by
 cases l with
 | nil => exact qG_pos
 | cons a t => exact Nat.mod_lt _ qG_pos
theorem fq_valN (x : Nat) : ∀ l : List Nat, fq (valN x l) = evalF (fq x) (l.map fq)
 | [] => rfl
 | a :: t => by
   show fq ((valN x t * x % qG + a) % qG) = fq a + fq x * evalF (fq x) (t.map fq);rw [fq_mod, fq_add, fq_mod, fq_mul, fq_valN x t]
   grind
def facN (ps : List Nat) (x : Nat) : Nat := (ps.filter (· ≠ x)).foldl (fun f y => f * (y * invN ((y + (qG - x)) % qG) % qG) % qG) 1
def invF (z : Fin qG) : Fin qG := fq (invN z.val)
theorem fq_sub {x y : Nat} (hx : x < qG) : fq (y + (qG - x)) = fq y - fq x := by
 have h : fq (qG - x) + fq x = 0 := by rw [← fq_add, show qG - x + x = qG by omega, fq_self]
 rw [fq_add]
 grind
theorem inv_fq (n : Nat) : invF (fq n) = fq (invN (n % qG)) := rfl
theorem fac_fold {x : Nat} (hx : x < qG) : ∀ (ys : List Nat) (f : Nat), fq (ys.foldl (fun f y => f * (y * invN ((y + (qG - x)) % qG) % qG) % qG) f) = fq f * prodF invF (fq x) (ys.map fq)
 | [], f => by show fq f = fq f * 1; grind
 | y :: ys, f => by
   rw [List.foldl_cons, fac_fold hx ys, fq_mod, fq_mul, fq_mod, fq_mul, List.map_cons];show _ = fq f * (fq y * invF (fq y - fq x) * prodF invF (fq x) (ys.map fq));rw [← fq_sub hx, inv_fq]
   grind
theorem filter_fq {x : Nat} (hx : x < qG) : ∀ ps : List Nat, (∀ y ∈ ps, y < qG) → (ps.filter (· ≠ x)).map fq = (ps.map fq).filter (· ≠ fq x)
 | [], _ => rfl
 | y :: ps, h => by
   have hy := h y (List.mem_cons_self ..);have ih := filter_fq hx ps fun z hz => h z (List.mem_cons_of_mem _ hz)
   by_cases e : y = x
   ·subst e;rw [List.filter_cons_of_neg (by simp), List.map_cons, List.filter_cons_of_neg (by simp), ih]
   ·have e2 : fq y ≠ fq x := fun h => e (by
     have := fq_eq.1 h
     rwa [Nat.mod_eq_of_lt hy, Nat.mod_eq_of_lt hx] at this)
    rw [List.filter_cons_of_pos (by simpa using e), List.map_cons, List.map_cons, List.filter_cons_of_pos (by simpa using e2), ih]
theorem fq_fac {ps : List Nat} (h : ∀ y ∈ ps, y < qG) {x : Nat} (hx : x < qG) : fq (facN ps x) = lagF invF (ps.map fq) (fq x) := by
 unfold facN lagF;rw [fac_fold hx, ← filter_fq hx ps h, fq_one]
 grind
theorem facN_lt (ps : List Nat) (x : Nat) : facN ps x < qG := by
 unfold facN;have : ∀ (ys : List Nat) (f : Nat), f < qG → ys.foldl (fun f y => f * (y * invN ((y + (qG - x)) % qG) % qG) % qG) f < qG := fun ys => by
  induction ys with
  | nil => exact fun f h => h
  | cons y ys ih => exact fun f _ => ih _ (Nat.mod_lt _ qG_pos)
 exact this _ 1 (by have := pos_lt qG_pos; omega)
theorem apart_fq : ∀ {ps : List Nat}, (∀ y ∈ ps, y < qG) → ps.Nodup → Apart invF (ps.map fq)
 | [], _, _ => List.Pairwise.nil
 | x :: ps, h, hn => by
   obtain ⟨h1, h2⟩ := List.nodup_cons.1 hn;refine List.pairwise_cons.2 ⟨fun z hz => ?_, apart_fq (fun y hy => h y (List.mem_cons_of_mem _ hy)) h2⟩;obtain ⟨y, hy, rfl⟩ := List.mem_map.1 hz;have hx := h x (List.mem_cons_self ..);have hyq := h y (List.mem_cons_of_mem _ hy);have hne : x ≠ y := fun e => h1 (e ▸ hy);have key : ∀ a b : Nat, a < qG → b < qG → a ≠ b → (fq a - fq b) * invF (fq a - fq b) = 1 := fun a b ha hb hab => by
    rw [← fq_sub hb, inv_fq, ← fq_mod (a + (qG - b)), ← fq_mul, ← fq_one];refine fq_eq.2 ?_;have h0 : (a + (qG - b)) % qG % qG ≠ 0 := by
     rw [Nat.mod_mod];intro e
     rcases Nat.lt_or_ge (a + (qG - b)) qG with h1 | h1
     ·rw [Nat.mod_eq_of_lt h1] at e; omega
     ·rw [Nat.mod_eq_sub_mod h1, Nat.mod_eq_of_lt (by omega)] at e; omega
    rw [inv_mul _ h0, Nat.mod_eq_of_lt (by have := pos_lt qG_pos; omega)]
   exact ⟨key x y hx hyq hne, key y x hyq hx (Ne.symm hne), fun e => hne (by
    have := fq_eq.1 e
    rwa [Nat.mod_eq_of_lt hx, Nat.mod_eq_of_lt hyq] at this)⟩
def dotN : List Nat → List Nat → Nat → Nat
 | f :: fs, y :: ys, s => dotN fs ys ((s + f * y % qG) % qG)
 | _, _, s => s
theorem dotN_lt : ∀ (fs ys : List Nat) (s : Nat), s < qG → dotN fs ys s < qG
 | [], _, _, h => h
 | _ :: _, [], _, h => h
 | _ :: fs, _ :: ys, _, _ => dotN_lt fs ys _ (Nat.mod_lt _ qG_pos)
theorem fq_dot (g h : Nat → Nat) : ∀ (ps : List Nat) (s : Nat), fq (dotN (ps.map g) (ps.map h) s) = fq s + sumF (fun z => z) (ps.map fun x => fq (g x) * fq (h x))
 | [], s => by show fq s = fq s + 0; grind
 | x :: ps, s => by
   show fq (dotN (ps.map g) (ps.map h) ((s + g x * h x % qG) % qG)) = fq s + (fq (g x) * fq (h x) + sumF _ (ps.map _));rw [fq_dot g h ps, fq_mod, fq_add, fq_mod, fq_mul]
   grind
theorem sumF_map (f : Fin qG → Fin qG) (ps : List Nat) : sumF f (ps.map fq) = sumF (fun z => z) (ps.map fun x => f (fq x)) := by
 induction ps with
 | nil => rfl
 | cons x ps ih => show f (fq x) + sumF f (ps.map fq) = f (fq x) + sumF _ (ps.map _); rw [ih]
theorem lagrange (ps cs : List Nat) (h : ∀ y ∈ ps, y < qG) (hn : ps.Nodup) (h0 : ps ≠ []) (hl : cs.length ≤ ps.length) : dotN (ps.map (facN ps)) (ps.map fun x => valN x cs) 0 = cs.headD 0 % qG := by
 have e := lag_main invF (ps.map fq) (cs.map fq) (apart_fq h hn) (by simpa using h0) (by simpa using hl);have e1 : fq (dotN (ps.map (facN ps)) (ps.map fun x => valN x cs) 0) = fq (cs.headD 0) := by
  rw [fq_dot, fq_zero];rw [sumF_map] at e;have e2 : (ps.map fun x => fq (facN ps x) * fq (valN x cs)) = ps.map fun x => lagF invF (ps.map fq) (fq x) * evalF (fq x) (cs.map fq) := List.map_congr_left fun x hx => by rw [fq_fac h (h x hx), fq_valN]
  rw [e2, e]
  cases cs with
  | nil => rw [List.headD_nil, fq_zero]; exact Fin.ext (by simp [evalF])
  | cons a t => simp only [List.map_cons, evalF, List.headD_cons]; grind
 have e3 := fq_eq.1 e1;rwa [Nat.mod_eq_of_lt (dotN_lt _ _ _ qG_pos)] at e3
/-! ### commitments -/
def atN (x : Nat) : List Nat → Nat → Nat → Nat
 | [], out, _ => out
 | c :: cs, out, p => atN x cs (out * pm pG 64 c p % pG) (p * x % qG)
theorem at_gP (x : Nat) : ∀ (cs : List Nat) (s p : Nat), (∀ c ∈ cs, c < qG) → s < qG → p < qG → atN x (cs.map gP) (gP s) p = gP ((s + p * valN x cs) % qG)
 | [], s, p, _, hs, _ => by show gP s = gP ((s + p * 0) % qG); rw [Nat.mul_zero, Nat.add_zero, Nat.mod_eq_of_lt hs]
 | c :: cs, s, p, h, hs, hp => by
   have hc := h c (List.mem_cons_self ..);have h64 := qG_64;show atN x (cs.map gP) (gP s * pm pG 64 (gP c) p % pG) (p * x % qG) = _;have e : gP s * pm pG 64 (gP c) p % pG = gP ((s + c * p % qG) % qG) := by
    rw [pm_eq pG 64 _ _ (Nat.lt_trans hp h64), gP_pow c p (Nat.lt_trans hc h64), gP_mul s _ (Nat.lt_trans hs h64) (Nat.lt_trans (Nat.mod_lt _ qG_pos) h64)]
   rw [e, at_gP x cs _ _ (fun d hd => h d (List.mem_cons_of_mem _ hd)) (Nat.mod_lt _ qG_pos) (Nat.mod_lt _ qG_pos)]
   congr 1
   refine fq_eq.1 ?_;show fq ((s + c * p % qG) % qG + p * x % qG * valN x cs) = fq (s + p * ((valN x cs * x % qG + c) % qG));rw [fq_add, fq_mod, fq_add, fq_mod, fq_mul, fq_mul, fq_mod, fq_mul, fq_add, fq_mul p, fq_mod, fq_add, fq_mod, fq_mul]
   grind
theorem at_val (x : Nat) {cs : List Nat} (h : ∀ c ∈ cs, c < qG) : atN x (cs.map gP) 1 1 = gP (valN x cs) := by
 have e := at_gP x cs 0 1 h qG_pos (by have := pos_lt qG_pos; omega);rw [gP_zero, Nat.zero_add, Nat.one_mul, Nat.mod_eq_of_lt (valN_lt x cs)] at e;exact e
def mixN : List Nat → List Nat → Nat → Nat
 | c :: cs, f :: fs, out => mixN cs fs (out * pm pG 64 c f % pG)
 | _, _, out => out
theorem mix_gP : ∀ (cs fs : List Nat) (s : Nat), (∀ c ∈ cs, c < qG) → (∀ f ∈ fs, f < qG) → s < qG → mixN (cs.map gP) fs (gP s) = gP (dotN fs cs s)
 | [], [], _, _, _, _ => rfl
 | [], _ :: _, _, _, _, _ => rfl
 | _ :: _, [], _, _, _, _ => rfl
 | c :: cs, f :: fs, s, h, k, hs => by
   have hc := h c (List.mem_cons_self ..);have hf := k f (List.mem_cons_self ..);have h64 := qG_64;show mixN (cs.map gP) fs (gP s * pm pG 64 (gP c) f % pG) = gP (dotN fs cs ((s + f * c % qG) % qG));have e : gP s * pm pG 64 (gP c) f % pG = gP ((s + f * c % qG) % qG) := by
    rw [pm_eq pG 64 _ _ (Nat.lt_trans hf h64), gP_pow c f (Nat.lt_trans hc h64), gP_mul s _ (Nat.lt_trans hs h64) (Nat.lt_trans (Nat.mod_lt _ qG_pos) h64), Nat.mul_comm c f]
   rw [e];exact mix_gP cs fs _ (fun d hd => h d (List.mem_cons_of_mem _ hd)) (fun d hd => k d (List.mem_cons_of_mem _ hd)) (Nat.mod_lt _ qG_pos)
end Go.Proofs.YtkpinmejfdnhbaaGreatDoor
namespace Go.Proofs.YtkpinmejfdnhbaaGreatDoor
open Go.Lib (decDigits)
structure Mem where
 id : Int
 wt : Int
 pub : Int
structure Vt where
 who : Int
 text : ByteArray
 r : Int
 s : Int
structure Hdr where
 epoch : Int
 mems : List Mem
 commits : List Int
 points : List (List Int)
 links : List (List UInt8)
def numsL (ns : List Int) : List UInt8 := ns.flatMap fun n => 32 :: decI n
theorem numsL_snoc (ns : List Int) (n : Int) : numsL (ns ++ [n]) = numsL ns ++ (32 :: decI n) := by simp [numsL]
def lineL (word : List UInt8) (ns : List Int) : List UInt8 := word ++ numsL ns ++ [10]
def wHeader : List UInt8 := [104, 101, 97, 100, 101, 114]
def wMember : List UInt8 := [109, 101, 109, 98, 101, 114]
def wPoints : List UInt8 := [112, 111, 105, 110, 116, 115]
def wKeys : List UInt8 := [107, 101, 121, 115]
def memL (m : Mem) : List UInt8 := lineL wMember [m.id, m.wt, m.pub]
def linkL (h : List UInt8) : List UInt8 := [108, 105, 110, 107, 32] ++ (hexL h ++ [10])
def hdrL (h : Hdr) : List UInt8 := lineL wHeader [h.epoch] ++ (h.mems.flatMap memL ++ (h.points.flatMap (lineL wPoints) ++ (lineL wKeys h.commits ++ h.links.flatMap linkL)))
/-! ### weights of votes -/
def Vt.ok (v : Vt) (m : Mem) (t : ByteArray) : Bool := v.who == m.id && v.text == t && verS m.pub t.data.toList v.r v.s
def goodW (m : Mem) : Bool := decide (1 ≤ m.wt) && decide (m.wt ≤ 20)
def firstB (ms : List Mem) (i : Nat) (m : Mem) : Bool := (ms.take i).all fun x => x.id != m.id
def addsI (ms : List Mem) (vs : List Vt) (t : ByteArray) (i : Nat) : Int :=
 match ms[i]? with
 | none => 0
 | some m => if firstB ms i m && goodW m && vs.any (·.ok m t) then m.wt else 0
def sumI (f : Nat → Int) : Nat → Int
 | 0 => 0
 | n + 1 => sumI f n + f n
def weightI (ms : List Mem) (vs : List Vt) (t : ByteArray) : Int := sumI (addsI ms vs t) ms.length
theorem sumI_congr {f g : Nat → Int} : ∀ {n : Nat}, (∀ i, i < n → f i = g i) → sumI f n = sumI g n
 | 0, _ => rfl
 | n + 1, h => by
   show sumI f n + f n = sumI g n + g n;rw [sumI_congr fun i hi => h i (by omega), h n (by omega)]
theorem sumI_one {f g : Nat → Int} {k : Nat} {d : Int} (hk : f k = g k + d) : ∀ {n : Nat}, k < n → (∀ i, i < n → i ≠ k → f i = g i) → sumI f n = sumI g n + d
 | 0, h, _ => absurd h (by omega)
 | n + 1, h, e => by
   show sumI f n + f n = sumI g n + g n + d
   by_cases hn : k = n
   ·subst hn;rw [sumI_congr fun i hi => e i (by omega) (by omega), hk]; omega
   ·rw [sumI_one hk (by omega) fun i hi => e i (by omega), e n (by omega) (by omega)]; omega
theorem find_first {ms : List Mem} {who : Int} {m : Mem} (h : ms.find? (·.id == who) = some m) : ∃ k, k < ms.length ∧ ms[k]? = some m ∧ m.id = who ∧ firstB ms k m = true ∧ ∀ (i : Nat) (x : Mem), ms[i]? = some x → x.id = who → firstB ms i x = true → i = k := by
 induction ms with
 | nil => cases h
 | cons y ms ih =>
   by_cases e : y.id = who
   ·rw [List.find?_cons_of_pos (by simpa using e)] at h;obtain rfl := Option.some.inj h;refine ⟨0, by simp, rfl, e, rfl, fun i x hx hxw hf => ?_⟩
    cases i with
    | zero => rfl
    | succ i =>
      exfalso
      unfold firstB at hf;rw [List.take_succ_cons, List.all_cons] at hf;simp only [Bool.and_eq_true, bne_iff_ne, ne_eq] at hf;exact hf.1 (e.trans hxw.symm)
   ·rw [List.find?_cons_of_neg (by simpa using e)] at h;obtain ⟨k, hk, hm, hw, hf, hu⟩ := ih h;refine ⟨k + 1, by simp; omega, by simpa using hm, hw, ?_, fun i x hx hxw hfx => ?_⟩
    ·unfold firstB at hf ⊢;rw [List.take_succ_cons, List.all_cons, hf]
     simp [hw, e]
    ·cases i with
     | zero => simp at hx; subst hx; exact absurd hxw e
     | succ i =>
       unfold firstB at hfx;rw [List.take_succ_cons, List.all_cons, Bool.and_eq_true] at hfx;rw [hu i x (by simpa using hx) hxw hfx.2]
theorem weight_skip {ms : List Mem} {vs : List Vt} {v : Vt} {t : ByteArray} (h : ∀ m, ms.find? (·.id == v.who) = some m → goodW m = false ∨ vs.any (·.ok m t) = true ∨ v.ok m t = false) : weightI ms (vs ++ [v]) t = weightI ms vs t := by
 refine sumI_congr fun i hi => ?_;unfold addsI;rw [List.getElem?_eq_getElem hi];dsimp only;rw [List.any_append]
 by_cases hf : firstB ms i ms[i] = true
 ·by_cases hw : ms[i].id = v.who
  ·have hfind : ms.find? (·.id == v.who) = some ms[i] := by
    cases hx : ms.find? (·.id == v.who) with
    | none =>
      have := List.find?_eq_none.1 hx ms[i] (List.getElem_mem hi)
      simp [hw] at this
    | some m =>
      obtain ⟨k, hk, hm, _, _, hu⟩ := find_first hx;obtain rfl := hu i ms[i] (List.getElem?_eq_getElem hi) hw hf;rw [List.getElem?_eq_getElem hk] at hm;rw [← Option.some.inj hm]
   rcases h _ hfind with e | e | e
   ·simp [e]
   ·simp [e]
   ·simp [e]
  ·have e : v.ok ms[i] t = false := by simp [Vt.ok]; intro e; exact absurd e.symm hw
   simp [e]
 ·simp [hf]
theorem weight_add {ms : List Mem} {vs : List Vt} {v : Vt} {t : ByteArray} {m : Mem} (h : ms.find? (·.id == v.who) = some m) (hg : goodW m = true) (ha : vs.any (·.ok m t) = false) (hv : v.ok m t = true) : weightI ms (vs ++ [v]) t = weightI ms vs t + m.wt := by
 obtain ⟨k, hk, hm, hw, hf, hu⟩ := find_first h;refine sumI_one (k := k) ?_ hk fun i hi hne => ?_
 ·unfold addsI;rw [hm];dsimp only;rw [List.any_append]
  simp [hf, hg, ha, hv]
 ·unfold addsI;rw [List.getElem?_eq_getElem hi];dsimp only;rw [List.any_append]
  by_cases e : v.ok ms[i] t = true
  ·have e2 : ms[i].id = v.who := by
    unfold Vt.ok at e;simp only [Bool.and_eq_true, beq_iff_eq] at e;exact e.1.1.symm
   by_cases hfi : firstB ms i ms[i] = true
   ·exact absurd (hu i _ (List.getElem?_eq_getElem hi) e2 hfi) hne
   ·simp [hfi]
  ·simp only [Bool.not_eq_true] at e
   simp [e]
theorem any_other {vs : List Vt} {v : Vt} {t : ByteArray} {m : Mem} (h : v.who ≠ m.id) : (vs ++ [v]).any (·.ok m t) = vs.any (·.ok m t) := by
 rw [List.any_append];have : v.ok m t = false := by simp [Vt.ok]; intro e; exact absurd e h
 simp [this]
/-! ### the steps of an epoch, links, routes -/
def linksL (hs : List Hdr) (n : Nat) : List (List UInt8) := (List.range (bitsN n)).map fun i => match hs[n - 2 ^ i]? with
 | some h => shaS (hdrL h)
 | none => []
def leftD : Nat → Nat → List Nat
 | 0, _ => []
 | f + 1, d => if d = 0 then [] else (d - 2 ^ (bitsN d - 1)) :: leftD f (d - 2 ^ (bitsN d - 1))
def routeD (to d : Nat) : List Nat := (leftD 64 d).map (to + ·)
theorem bits_pow {d : Nat} (h : d ≠ 0) : 2 ^ (bitsN d - 1) ≤ d ∧ d < 2 * 2 ^ (bitsN d - 1) ∧ bitsN d ≠ 0 := by
 obtain ⟨k, e, h1, h2⟩ := bitsN_bounds h;rw [e, Nat.add_sub_cancel];rw [Nat.pow_succ] at h2
 omega
theorem bits_le_iff {n i : Nat} : 2 ^ i ≤ n ↔ i < bitsN n := by
 by_cases h : n = 0
 ·subst h;rw [bitsN_zero];have := Nat.two_pow_pos i
  omega
 ·obtain ⟨k, e, h1, h2⟩ := bitsN_bounds h;rw [e]
  constructor
  ·intro h3
   rcases Nat.lt_or_ge i (k + 1) with h4 | h4
   ·exact h4
   ·have := Nat.pow_le_pow_right (n := 2) (by omega) h4
    omega
  ·intro h3;have := Nat.pow_le_pow_right (n := 2) (by omega) (show i ≤ k by omega)
   omega
theorem left_cons {f d : Nat} (h : d ≠ 0) : leftD (f + 1) d = (d - 2 ^ (bitsN d - 1)) :: leftD f (d - 2 ^ (bitsN d - 1)) := if_neg h
theorem left_nil (f : Nat) : leftD f 0 = [] := by
 cases f with
 | zero => rfl
 | succ f => exact if_pos rfl
theorem left_lt {f d : Nat} (h : d ≠ 0) (hf : d < 2 ^ (f + 1)) : d - 2 ^ (bitsN d - 1) < 2 ^ f := by
 obtain ⟨h1, h2, h3⟩ := bits_pow h;have h4 : bitsN d ≤ f + 1 := by
  rcases Nat.lt_or_ge (f + 1) (bitsN d) with h5 | h5
  ·have := bits_le_iff.2 h5; omega
  ·exact h5
 have h6 := Nat.pow_le_pow_right (n := 2) (by omega) (show bitsN d - 1 ≤ f by omega)
 omega
/-! ### right headers -/
def totW (ms : List Mem) : Int := (ms.map (·.wt)).sum
theorem totW_snoc (ms : List Mem) (m : Mem) : totW (ms ++ [m]) = totW ms + m.wt := by simp [totW]
def okB (ms : List Mem) (k : Nat) : Bool := (List.range k).all fun i => match ms[i]? with
 | some m => goodW m && firstB ms i m
 | none => true
theorem okB_succ {ms : List Mem} {k : Nat} {m : Mem} (h : ms[k]? = some m) : okB ms (k + 1) = (okB ms k && (goodW m && firstB ms k m)) := by
 unfold okB;rw [List.range_succ, List.all_append, List.all_cons, List.all_nil, Bool.and_true, h]
theorem okB_le {ms : List Mem} {k : Nat} : ∀ {n : Nat}, k ≤ n → okB ms n = true → okB ms k = true := fun hk h => by
 unfold okB at *;rw [List.all_eq_true] at *;exact fun i hi => h i (List.mem_range.2 (Nat.lt_of_lt_of_le (List.mem_range.1 hi) hk))
def rightMems (ms : List Mem) : Bool := decide (1 ≤ ms.length) && decide (ms.length ≤ 13) && okB ms ms.length && decide (totW ms ≤ 60)
def runZ (n k : Nat) : List Int := (List.range k).map fun (i : Nat) => ((n + i : Nat) : Int)
theorem runZ_succ (n k : Nat) : runZ n (k + 1) = runZ n k ++ [((n + k : Nat) : Int)] := by simp [runZ, List.range_succ]
theorem runZ_len (n k : Nat) : (runZ n k).length = k := by simp [runZ]
def pointsL : Nat → List Mem → List (List Int)
 | _, [] => []
 | n, m :: ms => runZ n m.wt.toNat :: pointsL (n + m.wt.toNat) ms
def nextP : Nat → List Mem → Nat
 | n, [] => n
 | n, m :: ms => nextP (n + m.wt.toNat) ms
theorem pointsL_snoc (m : Mem) : ∀ (ms : List Mem) (n : Nat), pointsL n (ms ++ [m]) = pointsL n ms ++ [runZ (nextP n ms) m.wt.toNat]
 | [], _ => rfl
 | x :: ms, n => by show runZ n _ :: pointsL _ (ms ++ [m]) = _; rw [pointsL_snoc m ms]; rfl
theorem nextP_snoc (m : Mem) : ∀ (ms : List Mem) (n : Nat), nextP n (ms ++ [m]) = nextP n ms + m.wt.toNat
 | [], _ => rfl
 | x :: ms, n => by show nextP _ (ms ++ [m]) = _; rw [nextP_snoc m ms]; rfl
theorem pointsL_len : ∀ (ms : List Mem) (n : Nat), (pointsL n ms).length = ms.length
 | [], _ => rfl
 | x :: ms, n => by show (pointsL _ ms).length + 1 = ms.length + 1; rw [pointsL_len ms]
theorem nextP_tot : ∀ {ms : List Mem} {n : Nat}, (∀ m ∈ ms, 0 ≤ m.wt) → (nextP n ms : Int) = n + totW ms
 | [], n, _ => by simp [nextP, totW]
 | m :: ms, n, h => by
   show (nextP (n + m.wt.toNat) ms : Int) = _;rw [nextP_tot fun x hx => h x (List.mem_cons_of_mem _ hx)];have := h m (List.mem_cons_self ..);simp only [totW, List.map_cons, List.sum_cons]
   omega
def consecO : Nat → List (List Int) → Option Nat
 | n, [] => some n
 | n, l :: ls => if l ≠ [] ∧ l = runZ n l.length then consecO (n + l.length) ls else none
def needN (n : Nat) : Nat := if n < 1 then 0 else (n - 1) / 3 + 1
def keysB (commits : List Int) (points : List (List Int)) : Bool :=
 match consecO 1 points with
 | none => false
 | some n => decide (1 ≤ n - 1) && decide (n - 1 ≤ 60) && decide (commits.length = needN (n - 1)) && commits.all memB
def rightH (h : Hdr) : Bool := decide (0 ≤ h.epoch) && decide (h.epoch ≤ 1000000000) && rightMems h.mems && decide (h.points = pointsL 1 h.mems) && keysB h.commits h.points && decide (h.links.length = bitsN h.epoch.toNat)
theorem consec_points : ∀ {ms : List Mem} {n : Nat}, (∀ m ∈ ms, 1 ≤ m.wt) → consecO n (pointsL n ms) = some (nextP n ms)
 | [], _, _ => rfl
 | m :: ms, n, h => by
   have hm := h m (List.mem_cons_self ..);show (if runZ n m.wt.toNat ≠ [] ∧ runZ n m.wt.toNat = runZ n (runZ n m.wt.toNat).length then consecO (n + (runZ n m.wt.toNat).length) (pointsL (n + m.wt.toNat) ms) else none) = _;rw [runZ_len, if_pos ⟨fun e => by have := congrArg List.length e; rw [runZ_len] at this; simp at this; omega, rfl⟩, consec_points fun x hx => h x (List.mem_cons_of_mem _ hx)]
   rfl
end Go.Proofs.YtkpinmejfdnhbaaGreatDoor
namespace Go.Proofs.YtkpinmejfdnhbaaGreatDoor
def leafT (s : List UInt8) : List UInt8 := shaS (0 :: s)
def nodeT (a b : List UInt8) : List UInt8 := shaS (1 :: (a ++ b))
def halfGo : Nat → Nat → Nat → Nat
 | 0, k, _ => k
 | f + 1, k, n => if k < n - k then halfGo f (2 * k) n else k
def halfT (n : Nat) : Nat := halfGo 64 1 n
theorem halfGo_stop {f k n : Nat} (h : ¬ k < n - k) : halfGo f k n = k := by
 cases f with
 | zero => rfl
 | succ f => exact if_neg h
theorem halfGo_more : ∀ (f g k n : Nat), n ≤ 2 ^ (f + 1) * k → halfGo (f + g) k n = halfGo f k n
 | 0, g, k, n, h => by
   rw [Nat.zero_add, halfGo_stop (by rw [Nat.zero_add, Nat.pow_one] at h; omega)]; rfl
 | f + 1, g, k, n, h => by
   rw [show f + 1 + g = (f + g) + 1 by omega];show (if k < n - k then halfGo (f + g) (2 * k) n else k) = if k < n - k then halfGo f (2 * k) n else k
   by_cases hk : k < n - k
   ·rw [if_pos hk, if_pos hk, halfGo_more f g (2 * k) n (by rw [Nat.pow_succ] at h; rw [← Nat.mul_assoc]; exact h)]
   ·rw [if_neg hk, if_neg hk]
theorem half_62 {n : Nat} (h : n < 2 ^ 63) : halfGo 62 1 n = halfT n := by
 unfold halfT;rw [show 64 = 62 + 2 from rfl, halfGo_more 62 2 1 n (by omega)]
theorem halfGo_pow : ∀ (f k n : Nat), 1 ≤ k → k < n → n ≤ 2 ^ f * k → (∃ j, k = 2 ^ j) → 1 ≤ halfGo f k n ∧ halfGo f k n < n ∧ n ≤ 2 * halfGo f k n ∧ ∃ j, halfGo f k n = 2 ^ j
 | 0, k, n, _, h2, h3, _ => by rw [Nat.pow_zero, Nat.one_mul] at h3; omega
 | f + 1, k, n, h1, h2, h3, hj => by
   show 1 ≤ (if k < n - k then halfGo f (2 * k) n else k) ∧ (if k < n - k then halfGo f (2 * k) n else k) < n ∧ n ≤ 2 * (if k < n - k then halfGo f (2 * k) n else k) ∧ ∃ j, (if k < n - k then halfGo f (2 * k) n else k) = 2 ^ j
   by_cases hk : k < n - k
   ·rw [if_pos hk];obtain ⟨j, hj⟩ := hj;exact halfGo_pow f (2 * k) n (by omega) (by omega) (by rw [Nat.pow_succ] at h3; rw [← Nat.mul_assoc]; exact h3) ⟨j + 1, by rw [hj, Nat.pow_succ, Nat.mul_comm]⟩
   ·rw [if_neg hk];exact ⟨h1, h2, by omega, hj⟩
theorem half_ok {n : Nat} (h1 : 1 < n) (h2 : n ≤ 2 ^ 64) : 1 ≤ halfT n ∧ halfT n < n ∧ n ≤ 2 * halfT n ∧ ∃ j, halfT n = 2 ^ j :=
 halfGo_pow 64 1 n (Nat.le_refl _) h1 (by omega) ⟨0, rfl⟩
theorem half_parts {n f : Nat} (h1 : 1 < n) (h2 : n ≤ 2 ^ (f + 1)) (hf : f ≤ 63) : halfT n ≤ 2 ^ f ∧ n - halfT n ≤ 2 ^ f ∧ 1 ≤ halfT n ∧ halfT n < n := by
 have h64 : 2 ^ (f + 1) ≤ 2 ^ 64 := Nat.pow_le_pow_right (by omega) (by omega);obtain ⟨q1, q2, q3, j, q4⟩ := half_ok h1 (by omega);have hj : halfT n ≤ 2 ^ f := by
  rw [q4] at q2 ⊢;have h5 : 2 ^ j < 2 ^ (f + 1) := by omega
  exact Nat.pow_le_pow_right (by omega) (by have := (Nat.pow_lt_pow_iff_right (a := 2) (by omega)).1 h5; omega)
 exact ⟨hj, by omega, q1, q2⟩
/-! ### paths -/
def depthT : Nat → Nat → Nat → Nat
 | 0, _, _ => 0
 | f + 1, i, n => if n ≤ 1 then 0 else if i < halfT n then 1 + depthT f i (halfT n) else 1 + depthT f (i - halfT n) (n - halfT n)
def upT : Nat → List UInt8 → Nat → Nat → List (List UInt8) → List UInt8
 | 0, x, _, _, _ => x
 | f + 1, x, i, n, p => if n ≤ 1 then x else if i < halfT n then nodeT (upT f x i (halfT n) p.dropLast) (p.getLastD []) else nodeT (p.getLastD []) (upT f x (i - halfT n) (n - halfT n) p.dropLast)
def walkT (zero : List UInt8) (p : List (List UInt8)) (x : List UInt8) : Nat → Nat → Nat → Nat × Bool → List UInt8 × Nat × Bool
 | 0, _, _, s => (x, s)
 | f + 1, n, i, s => if n ≤ 1 then (x, s) else
  if i < halfT n then
   let r := walkT zero p x f (halfT n) i s
   if r.2.1 = p.length then (nodeT r.1 zero, r.2.1, false) else (nodeT r.1 (p.getD r.2.1 []), r.2.1 + 1, r.2.2)
  else
   let r := walkT zero p x f (n - halfT n) (i - halfT n) s
   if r.2.1 = p.length then (nodeT zero r.1, r.2.1, false) else (nodeT (p.getD r.2.1 []) r.1, r.2.1 + 1, r.2.2)
theorem depth_le : ∀ f i n, depthT f i n ≤ f
 | 0, _, _ => Nat.le_refl _
 | f + 1, i, n => by
   show (if n ≤ 1 then 0 else if i < halfT n then 1 + depthT f i (halfT n) else 1 + depthT f (i - halfT n) (n - halfT n)) ≤ f + 1;have h1 := depth_le f i (halfT n);have h2 := depth_le f (i - halfT n) (n - halfT n)
   split
   ·omega
   ·split <;> omega
theorem walk_enough (zero : List UInt8) (p : List (List UInt8)) (x : List UInt8) : ∀ (f n i u : Nat) (e : Bool), u + depthT f i n ≤ p.length →
 walkT zero p x f n i (u, e) = (upT f x i n ((p.drop u).take (depthT f i n)), u + depthT f i n, e)
 | 0, n, i, u, e, h => rfl
 | f + 1, n, i, u, e, h => by
   unfold walkT upT;unfold depthT at h ⊢
   by_cases hn : n ≤ 1
   ·rw [if_pos hn, if_pos hn, if_pos hn]; rfl
   ·rw [if_neg hn, if_neg hn, if_neg hn];rw [if_neg hn] at h;have key : ∀ d, u + (1 + d) ≤ p.length → ((p.drop u).take (1 + d)).dropLast = (p.drop u).take d ∧ ((p.drop u).take (1 + d)).getLastD [] = p.getD (u + d) [] ∧ u + d ≠ p.length := fun d hd => by
     have hl : ((p.drop u).take (1 + d)).length = 1 + d := by rw [List.length_take, List.length_drop]; omega
     refine ⟨?_, ?_, by omega⟩
     ·rw [List.dropLast_eq_take, hl, List.take_take, show min (1 + d - 1) (1 + d) = d by omega]
     ·rw [List.getLastD_eq_getLast?, List.getLast?_eq_getElem?, hl, List.getElem?_take, if_pos (by omega), List.getElem?_drop, List.getD_eq_getElem?_getD, show u + (1 + d - 1) = u + d by omega]
    by_cases hi : i < halfT n
    ·rw [if_pos hi, if_pos hi, if_pos hi];rw [if_pos hi] at h;obtain ⟨k1, k2, k3⟩ := key _ h;rw [walk_enough zero p x f (halfT n) i u e (by omega), k1, k2];dsimp only;rw [if_neg k3, Nat.add_assoc, Nat.add_comm (depthT f i (halfT n)) 1]
    ·rw [if_neg hi, if_neg hi, if_neg hi];rw [if_neg hi] at h;obtain ⟨k1, k2, k3⟩ := key _ h;rw [walk_enough zero p x f (n - halfT n) (i - halfT n) u e (by omega), k1, k2];dsimp only;rw [if_neg k3, Nat.add_assoc, Nat.add_comm (depthT f (i - halfT n) (n - halfT n)) 1]
theorem walk_short (zero : List UInt8) (p : List (List UInt8)) (x : List UInt8) : ∀ (f n i u : Nat) (e : Bool), u ≤ p.length → p.length < u + depthT f i n →
 (walkT zero p x f n i (u, e)).2 = (p.length, false)
 | 0, n, i, u, e, h1, h => by unfold depthT at h; omega
 | f + 1, n, i, u, e, h1, h => by
   unfold walkT;unfold depthT at h
   by_cases hn : n ≤ 1
   ·rw [if_pos hn] at h; omega
   ·rw [if_neg hn];rw [if_neg hn] at h;have key : ∀ (m j : Nat), p.length < u + (1 + depthT f j m) → (walkT zero p x f m j (u, e)).2.1 = p.length := fun m j hd => by
     by_cases h2 : u + depthT f j m ≤ p.length
     ·rw [walk_enough zero p x f m j u e h2]; show u + depthT f j m = p.length; omega
     ·rw [walk_short zero p x f m j u e h1 (by omega)]
    by_cases hi : i < halfT n
    ·rw [if_pos hi] at h ⊢;dsimp only;have k := key (halfT n) i h;rw [if_pos k];exact Prod.ext k rfl
    ·rw [if_neg hi] at h ⊢;dsimp only;have k := key (n - halfT n) (i - halfT n) h;rw [if_pos k];exact Prod.ext k rfl
/-! ### roots, and the paths of a list -/
def rootT : Nat → List (List UInt8) → List UInt8
 | 0, _ => []
 | f + 1, l => if l.length = 0 then shaS [] else if l.length = 1 then leafT (l.headD []) else nodeT (rootT f (l.take (halfT l.length))) (rootT f (l.drop (halfT l.length)))
def pathT : Nat → List (List UInt8) → Nat → List (List UInt8)
 | 0, _, _ => []
 | f + 1, l, n => if l.length ≤ 1 then [] else if n < halfT l.length then pathT f (l.take (halfT l.length)) n ++ [rootT f (l.drop (halfT l.length))] else pathT f (l.drop (halfT l.length)) (n - halfT l.length) ++ [rootT f (l.take (halfT l.length))]
theorem path_len : ∀ (f : Nat) (l : List (List UInt8)) (n : Nat), n < l.length → l.length ≤ 2 ^ f → f ≤ 63 → (pathT (f + 1) l n).length = depthT (f + 1) n l.length
 | 0, l, n, h, hl, _ => by
   rw [Nat.pow_zero] at hl;unfold pathT depthT;rw [if_pos (by omega), if_pos (by omega)]; rfl
 | f + 1, l, n, h, hl, hf => by
   unfold pathT depthT
   by_cases h1 : l.length ≤ 1
   ·rw [if_pos h1, if_pos h1]; rfl
   ·obtain ⟨q1, q2, q3, q4⟩ := half_parts (by omega) hl (by omega);rw [if_neg h1, if_neg h1]
    by_cases hn : n < halfT l.length
    ·rw [if_pos hn, if_pos hn, List.length_append, path_len f _ n (by rw [List.length_take]; omega) (by rw [List.length_take]; omega) (by omega), List.length_take, Nat.min_eq_left (by omega)];show _ + 1 = _; omega
    ·rw [if_neg hn, if_neg hn, List.length_append, path_len f _ (n - halfT l.length) (by rw [List.length_drop]; omega) (by rw [List.length_drop]; omega) (by omega), List.length_drop];show _ + 1 = _; omega
theorem up_path : ∀ (f : Nat) (l : List (List UInt8)) (n : Nat), n < l.length → l.length ≤ 2 ^ f → f ≤ 63 → upT (f + 1) (leafT (l.getD n [])) n l.length (pathT (f + 1) l n) = rootT (f + 1) l
 | 0, l, n, h, hl, _ => by
   rw [Nat.pow_zero] at hl;unfold upT rootT;rw [if_pos (by omega), if_neg (by omega), if_pos (by omega)];obtain rfl : n = 0 := by omega
   cases l with
   | nil => simp at h
   | cons a t => rfl
 | f + 1, l, n, h, hl, hf => by
   unfold upT rootT pathT
   by_cases h1 : l.length ≤ 1
   ·rw [if_pos h1, if_neg (by omega), if_pos (by omega)];obtain rfl : n = 0 := by omega
    cases l with
    | nil => simp at h
    | cons a t => rfl
   ·obtain ⟨q1, q2, q3, q4⟩ := half_parts (by omega) hl (by omega);rw [if_neg h1, if_neg h1, if_neg (show ¬ l.length = 0 by omega), if_neg (show ¬ l.length = 1 by omega)]
    by_cases hn : n < halfT l.length
    ·rw [if_pos hn, if_pos hn, List.dropLast_concat];have := up_path f (l.take (halfT l.length)) n (by rw [List.length_take]; omega) (by rw [List.length_take]; omega) (by omega);rw [List.length_take, Nat.min_eq_left (by omega)] at this;rw [show (l.take (halfT l.length)).getD n [] = l.getD n [] by rw [List.getD_eq_getElem?_getD, List.getD_eq_getElem?_getD, List.getElem?_take, if_pos hn]] at this;rw [this]
     congr 1
     rw [List.getLastD_concat]
    ·rw [if_neg hn, if_neg hn, List.dropLast_concat];have := up_path f (l.drop (halfT l.length)) (n - halfT l.length) (by rw [List.length_drop]; omega) (by rw [List.length_drop]; omega) (by omega);rw [List.length_drop] at this;rw [show (l.drop (halfT l.length)).getD (n - halfT l.length) [] = l.getD n [] by rw [List.getD_eq_getElem?_getD, List.getD_eq_getElem?_getD, List.getElem?_drop, show halfT l.length + (n - halfT l.length) = n by omega]] at this;rw [this]
     congr 1
     rw [List.getLastD_concat]
end Go.Proofs.YtkpinmejfdnhbaaGreatDoor
