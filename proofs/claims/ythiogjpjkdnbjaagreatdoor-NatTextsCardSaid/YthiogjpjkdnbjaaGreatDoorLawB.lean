/- The laws NatRing and NatDivides: they return true. -/
import Derived.Test.YthiogjpjkdnbjaaGreatDoorLawA
namespace Go.Proofs.YthiogjpjkdnbjaaGreatDoor
open Go.RowKit

/-- A call that returns a value, whatever the world, and leaves what was there. -/
abbrev Ret (f : FuncId) (args : Array Value) (v : Value) : Prop := ∀ W : World, Calls Tryz.prog f args W fun e w' => e = .returned v ∧ Below W.heap.size W w'

theorem Ret.of {f : FuncId} {args : Array Value} {v u : Value} (h : Ret f args v) (e : v = u) : Ret f args u := e ▸ h
theorem Ret.quiet {f : FuncId} {args : Array Value} {v : Value} (h : ∀ W : World, Calls Tryz.prog f args W fun e w' => e = .returned v ∧ W = w') : Ret f args v :=
  fun W => (h W).mono fun _ _ ⟨h1, h2⟩ => ⟨h1, h2 ▸ Below.refl _ _⟩

section
variable {a b : ByteArray} (ha : a.size ≤ 1000) (hb : b.size ≤ 1000)
include ha hb
theorem ret_add {n : Nat} (h : sval a + sval b = n) : Ret 39 #[.string a, .string b] (.string (natS n)) := fun W => h ▸ Add_any a b W (by omega) (by omega)
theorem ret_mul {n : Nat} (h : sval a * sval b = n) : Ret 30 #[.string a, .string b] (.string (natS n)) := fun W => h ▸ Mul_any a b W (by omega) (by omega)
theorem ret_sub {m n : Nat} (h1 : sval a = m) (h2 : sval b = n) (h : n ≤ m) : Ret 38 #[.string a, .string b] (.tuple #[.string (natS (m - n)), .bool true]) := fun W => by
  have := Sub_any a b W (by omega) (by omega)
  unfold subRes at this
  rw [h1, h2, if_pos h] at this
  exact this
theorem ret_quo {m n : Nat} (h1 : sval a = m) (h2 : sval b = n) (h : n ≠ 0) : Ret 19 #[.string a, .string b] (.tuple #[.string (natS (m / n)), .string (natS (m % n)), .bool true]) := fun W => by
  have := Quo_any a b W (by omega) (by omega)
  unfold quoRes at this
  rw [h1, h2, if_neg h] at this
  exact this
theorem ret_quo0 (h : sval b = 0) : Ret 19 #[.string a, .string b] (.tuple #[.string ⟨#[]⟩, .string ⟨#[]⟩, .bool false]) := fun W => by
  have := Quo_any a b W (by omega) (by omega)
  unfold quoRes at this
  rw [if_pos h] at this
  exact this
theorem ret_cmp {r : Int} (h : cmpI (sval a) (sval b) = r) : Ret 40 #[.string a, .string b] (.int .i64 r) := fun W => h ▸ Cmp_any a b W (by omega) (by omega)
end
theorem ret_bits {a : ByteArray} (ha : a.size ≤ 1000) {n : Nat} (h : bitsN (sval a) = n) : Ret 34 #[.string a] (.int .i64 (n : Int)) := Ret.quiet fun W => h ▸ Bits_any a W (by omega)
theorem ret_right {a : ByteArray} (ha : a.size ≤ 1000) {b : Bool} (h : rightB a = b) : Ret 36 #[.string a] (.bool b) := Ret.quiet fun W => h ▸ Right_any a W (by omega)
theorem ret_canon {a : ByteArray} (ha : a.size ≤ 1000) {n : Nat} (h : sval a = n) : Ret 28 #[.string a] (.string (natS n)) := Ret.quiet fun W => h ▸ rCanon a W (by omega)

theorem right_natS (n : Nat) : rightB (natS n) = true := by
  have h := natS_canon n
  unfold rightB
  cases e : (natS n).data.toList with
  | nil => rfl
  | cons x l =>
    have := h (by rw [e]; simp)
    simp only [e, List.head_cons] at this
    simpa using this
theorem sval_le {a : ByteArray} {k : Nat} (h : a.size ≤ k) : sval a < P8 k := Nat.lt_of_lt_of_le (sval_lt a) (P8_mono h)
theorem natS_sz {n k : Nat} (h : n < P8 k) (hk : k ≤ 1000) : (natS n).size ≤ 1000 := Nat.le_trans (natS_size h) hk
theorem P8_sum {x y k : Nat} (hx : x < P8 k) (hy : y < P8 k) : x + y < P8 (k + 1) := by rw [P8_succ]; omega
theorem P8_prod {x y j k : Nat} (hx : x < P8 j) (hy : y < P8 k) : x * y < P8 (j + k) := by rw [P8_add]; exact Nat.mul_lt_mul'' hx hy

set_option maxRecDepth 100000 in
set_option maxHeartbeats 2000000 in
theorem NatRing_any (A : Option Addr) (n c : Nat) (l : List UInt8) (B : Option Addr) (m d : Nat) (k : List UInt8) (C : Option Addr) (p q : Nat) (j : List UInt8) (w : World) (ht : Pow10 w) (hx : BDg w A n c l) (hy : BDg w B m d k) (hz : BDg w C p q j)
    (hn : n ≤ 9223372036854775807) (hm : m ≤ 9223372036854775807) (hp : p ≤ 9223372036854775807) :
    Calls Tryz.prog 9 #[.slice A n c, .slice B m d, .slice C p q] w fun e w' => e = .returned (.bool true) ∧ Below w.heap.size w w' := by
  have HT := Lib.hid ht
  clear ht
  obtain ⟨a, hae⟩ : ∃ a, a = madeS l := ⟨_, rfl⟩
  obtain ⟨b, hbe⟩ : ∃ b, b = madeS k := ⟨_, rfl⟩
  obtain ⟨g, hge⟩ : ∃ g, g = madeS j := ⟨_, rfl⟩
  have ha : a.size ≤ 40 := by rw [hae]; exact madeS_size l
  have hb : b.size ≤ 40 := by rw [hbe]; exact madeS_size k
  have hg : g.size ≤ 40 := by rw [hge]; exact madeS_size j
  have hva := sval_le ha
  have hvb := sval_le hb
  have hvc := sval_le hg
  have HMA : Hid (∀ W, Below w.heap.size w W → Calls Tryz.prog 14 #[.slice A n c] W fun e w' => e = .returned (.string a) ∧ W = w') := Lib.hid (fun W hW => hae ▸ rMade A n c l W (hx.below hW) hn)
  have HMB : Hid (∀ W, Below w.heap.size w W → Calls Tryz.prog 14 #[.slice B m d] W fun e w' => e = .returned (.string b) ∧ W = w') := Lib.hid (fun W hW => hbe ▸ rMade B m d k W (hy.below hW) hm)
  have HMC : Hid (∀ W, Below w.heap.size w W → Calls Tryz.prog 14 #[.slice C p q] W fun e w' => e = .returned (.string g) ∧ W = w') := Lib.hid (fun W hW => hge ▸ rMade C p q j W (hz.below hW) hp)
  have hAB := P8_sum hva hvb
  have hBC := P8_sum hvb hvc
  have hM := P8_prod hva hvb
  have hN := P8_prod hvb hvc
  have hE := P8_prod hva hvc
  have ha' : a.size ≤ 1000 := by omega
  have hb' : b.size ≤ 1000 := by omega
  have hg' : g.size ≤ 1000 := by omega
  have sAB := natS_sz hAB (by omega)
  have sBC := natS_sz hBC (by omega)
  have sM := natS_sz hM (by omega)
  have sN := natS_sz hN (by omega)
  have sE := natS_sz hE (by omega)
  have H1 := Lib.hid (ret_add ha' hb' rfl)
  have H2 := Lib.hid (ret_sub sAB hb' (sval_natS _) rfl (Nat.le_add_left _ _))
  rw [Nat.add_sub_cancel] at H2
  have H3 := Lib.hid (ret_add hb' ha' (Nat.add_comm (sval b) (sval a)))
  have H4 := Lib.hid (ret_mul ha' hb' rfl)
  have H5 := Lib.hid (ret_mul hb' ha' (Nat.mul_comm (sval b) (sval a)))
  have H6 := Lib.hid (ret_canon ha' rfl)
  have H7 := Lib.hid (ret_add sAB hg' (n := sval a + (sval b + sval g)) (by rw [sval_natS]; omega))
  have H8 := Lib.hid (ret_add hb' hg' rfl)
  have H9 := Lib.hid (ret_add ha' sBC (n := sval a + (sval b + sval g)) (by rw [sval_natS]))
  have H10 := Lib.hid (ret_mul sM hg' (n := sval a * (sval b * sval g)) (by rw [sval_natS, Nat.mul_assoc]))
  have H11 := Lib.hid (ret_mul hb' hg' rfl)
  have H12 := Lib.hid (ret_mul ha' sN (n := sval a * (sval b * sval g)) (by rw [sval_natS]))
  have H13 := Lib.hid (ret_mul ha' sBC (n := sval a * sval b + sval a * sval g) (by rw [sval_natS, Nat.mul_add]))
  have H14 := Lib.hid (ret_mul ha' hg' rfl)
  have H15 := Lib.hid (ret_add sM sE (n := sval a * sval b + sval a * sval g) (by rw [sval_natS, sval_natS]))
  have H16 := Lib.hid ((ret_mul ha' (b := ⟨#[]⟩) (by decide) (n := 0) (by rw [show sval ⟨#[]⟩ = 0 by decide, Nat.mul_zero])).of (u := .string ⟨#[]⟩) rfl)
  have H17 := Lib.hid (ret_mul ha' (b := ⟨#[1]⟩) (by decide) (n := sval a) (by rw [show sval ⟨#[1]⟩ = 1 by decide, Nat.mul_one]))
  clear hae hbe hge hva hvb hvc hAB hBC hM hN hE
  generalize natS (sval a + (sval b + sval g)) = sABC at H7 H9
  generalize natS (sval a * (sval b * sval g)) = sMNC at H10 H12
  generalize natS (sval a * sval b + sval a * sval g) = sD at H13 H15
  generalize natS (sval a + sval b) = tAB at *
  generalize natS (sval b + sval g) = tBC at *
  generalize natS (sval a * sval b) = tM at *
  generalize natS (sval b * sval g) = tN at *
  generalize natS (sval a * sval g) = tE at *
  generalize natS (sval a) = tA at *
  have hB := Below.refl w.heap.size w
  go_enter Tryz.func9, Tryz.ntmps9
  go_wp2_with (first
    | (go_at_call 13; (with_reducible refine (sanity_any _ (HT.out.below hB)).mono ?_); rintro e w' ⟨rfl, hb''⟩; replace hB := below_then hB hb''; clear hb'')
    | (go_at_call 14; (with_reducible refine (HMA.out _ hB).mono ?_); rintro e w' ⟨rfl, rfl⟩)
    | (go_at_call 14; (with_reducible refine (HMB.out _ hB).mono ?_); rintro e w' ⟨rfl, rfl⟩)
    | (go_at_call 14; (with_reducible refine (HMC.out _ hB).mono ?_); rintro e w' ⟨rfl, rfl⟩)
    | (go_at_call 39; (with_reducible refine (H1.out _).mono ?_); rintro e w' ⟨rfl, hb''⟩; replace hB := below_then hB hb''; clear hb'')
    | (go_at_call 38; (with_reducible refine (H2.out _).mono ?_); rintro e w' ⟨rfl, hb''⟩; replace hB := below_then hB hb''; clear hb'')
    | (go_at_call 39; (with_reducible refine (H3.out _).mono ?_); rintro e w' ⟨rfl, hb''⟩; replace hB := below_then hB hb''; clear hb'')
    | (go_at_call 30; (with_reducible refine (H4.out _).mono ?_); rintro e w' ⟨rfl, hb''⟩; replace hB := below_then hB hb''; clear hb'')
    | (go_at_call 30; (with_reducible refine (H5.out _).mono ?_); rintro e w' ⟨rfl, hb''⟩; replace hB := below_then hB hb''; clear hb'')
    | (go_at_call 28; (with_reducible refine (H6.out _).mono ?_); rintro e w' ⟨rfl, hb''⟩; replace hB := below_then hB hb''; clear hb'')
    | (go_at_call 39; (with_reducible refine (H7.out _).mono ?_); rintro e w' ⟨rfl, hb''⟩; replace hB := below_then hB hb''; clear hb'')
    | (go_at_call 39; (with_reducible refine (H8.out _).mono ?_); rintro e w' ⟨rfl, hb''⟩; replace hB := below_then hB hb''; clear hb'')
    | (go_at_call 39; (with_reducible refine (H9.out _).mono ?_); rintro e w' ⟨rfl, hb''⟩; replace hB := below_then hB hb''; clear hb'')
    | (go_at_call 30; (with_reducible refine (H10.out _).mono ?_); rintro e w' ⟨rfl, hb''⟩; replace hB := below_then hB hb''; clear hb'')
    | (go_at_call 30; (with_reducible refine (H11.out _).mono ?_); rintro e w' ⟨rfl, hb''⟩; replace hB := below_then hB hb''; clear hb'')
    | (go_at_call 30; (with_reducible refine (H12.out _).mono ?_); rintro e w' ⟨rfl, hb''⟩; replace hB := below_then hB hb''; clear hb'')
    | (go_at_call 30; (with_reducible refine (H13.out _).mono ?_); rintro e w' ⟨rfl, hb''⟩; replace hB := below_then hB hb''; clear hb'')
    | (go_at_call 30; (with_reducible refine (H14.out _).mono ?_); rintro e w' ⟨rfl, hb''⟩; replace hB := below_then hB hb''; clear hb'')
    | (go_at_call 39; (with_reducible refine (H15.out _).mono ?_); rintro e w' ⟨rfl, hb''⟩; replace hB := below_then hB hb''; clear hb'')
    | (go_at_call 30; (with_reducible refine (H16.out _).mono ?_); rintro e w' ⟨rfl, hb''⟩; replace hB := below_then hB hb''; clear hb'')
    | (go_at_call 30; (with_reducible refine (H17.out _).mono ?_); rintro e w' ⟨rfl, hb''⟩; replace hB := below_then hB hb''; clear hb''))
  go_ret
  exact ⟨rfl, hB⟩

end Go.Proofs.YthiogjpjkdnbjaaGreatDoor
