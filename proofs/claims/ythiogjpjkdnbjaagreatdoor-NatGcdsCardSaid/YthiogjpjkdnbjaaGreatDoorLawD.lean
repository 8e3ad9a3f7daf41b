/- The law NatGcds: it returns true. -/
import Derived.Test.YthiogjpjkdnbjaaGreatDoorLawB
import Derived.Test.YthiogjpjkdnbjaaGreatDoorRefL
import Derived.Deep.QuietTactic
import Derived.BigQuiet
namespace Go.Proofs.YthiogjpjkdnbjaaGreatDoor
open Go.RowKit

theorem ret_gcd {a b : ByteArray} (ha : a.size ≤ 1000) (hb : b.size ≤ 1000) {n : Nat} (h : Nat.gcd (sval a) (sval b) = n) : Ret 21 #[.string a, .string b] (.string (natS n)) := fun W => h ▸ Gcd_any a b W (by omega) (by omega)
theorem ret_rgcd {a b : ByteArray} (ha : a.size ≤ 1000) (hb : b.size ≤ 1000) {n : Nat} (h : Nat.gcd (sval a) (sval b) = n) : Ret 22 #[.string a, .string b] (.string (natS n)) := fun W => h ▸ rGcd a b W (by omega) (by omega)
theorem ret_rmul {a b : ByteArray} (ha : a.size ≤ 1000) (hb : b.size ≤ 1000) {n : Nat} (h : sval a * sval b = n) : Ret 16 #[.string a, .string b] (.string (natS n)) := fun W => h ▸ rMul a b W (by omega) (by omega)
theorem gcd_lt {x y k : Nat} (hx : x < P8 k) (hy : y < P8 k) : Nat.gcd x y < P8 k := by
  rcases Nat.eq_zero_or_pos x with h | h
  · rw [h, Nat.gcd_zero_left]; exact hy
  · exact Nat.lt_of_le_of_lt (Nat.gcd_le_left _ h) hx

/-- The first k bytes of a slice, made a number. -/
theorem made_cut {w W : World} {A : Option Addr} {n c : Nat} {l : List UInt8} (h : BDg w A n c l) (hn : n ≤ 9223372036854775807) (k m : Nat) (hm : m = min n k) (hW : Below w.heap.size w W) :
    Calls Tryz.prog 14 #[.slice A m c] W fun e w' => e = .returned (.string (madeS (l.take m))) ∧ w' = W :=
  (rMade A m c (l.take m) W ((h.below hW).take (by omega)) (by omega)).mono fun _ _ ⟨h1, h2⟩ => ⟨h1, h2.symm⟩

set_option maxRecDepth 100000 in
set_option maxHeartbeats 600000 in
theorem NatGcds_any (A : Option Addr) (n c : Nat) (l : List UInt8) (B : Option Addr) (m d : Nat) (k : List UInt8) (C : Option Addr) (p q : Nat) (j : List UInt8) (w : World) (ht : Pow10 w) (hx : BDg w A n c l) (hy : BDg w B m d k) (hz : BDg w C p q j)
    (hn : n ≤ 9223372036854775807) (hm : m ≤ 9223372036854775807) (hp : p ≤ 9223372036854775807) :
    Calls Tryz.prog 4 #[.slice A n c, .slice B m d, .slice C p q] w fun e w' => e = .returned (.bool true) ∧ Below w.heap.size w w' := by
  have HT := Lib.hid ht
  clear ht
  obtain ⟨n1, hn1⟩ : ∃ n1, n1 = min n 20 := ⟨_, rfl⟩
  obtain ⟨m1, hm1⟩ : ∃ m1, m1 = min m 20 := ⟨_, rfl⟩
  obtain ⟨p1, hp1⟩ : ∃ p1, p1 = min p 20 := ⟨_, rfl⟩
  obtain ⟨a, hae⟩ : ∃ a, a = madeS (l.take n1) := ⟨_, rfl⟩
  obtain ⟨b, hbe⟩ : ∃ b, b = madeS (k.take m1) := ⟨_, rfl⟩
  obtain ⟨g, hge⟩ : ∃ g, g = madeS (j.take p1) := ⟨_, rfl⟩
  have ha : a.size ≤ 40 := by rw [hae]; exact madeS_size _
  have hb : b.size ≤ 40 := by rw [hbe]; exact madeS_size _
  have hg : g.size ≤ 40 := by rw [hge]; exact madeS_size _
  have hva := sval_le ha
  have hvb := sval_le hb
  have hvc := sval_le hg
  have HMA : Hid (∀ W, Below w.heap.size w W → Calls Tryz.prog 14 #[.slice A n1 c] W fun e w' => e = .returned (.string a) ∧ w' = W) := Lib.hid (fun W hW => hae ▸ made_cut hx hn 20 n1 hn1 hW)
  have HMB : Hid (∀ W, Below w.heap.size w W → Calls Tryz.prog 14 #[.slice B m1 d] W fun e w' => e = .returned (.string b) ∧ w' = W) := Lib.hid (fun W hW => hbe ▸ made_cut hy hm 20 m1 hm1 hW)
  have HMC : Hid (∀ W, Below w.heap.size w W → Calls Tryz.prog 14 #[.slice C p1 q] W fun e w' => e = .returned (.string g) ∧ w' = W) := Lib.hid (fun W hW => hge ▸ made_cut hz hp 20 p1 hp1 hW)
  have hG := gcd_lt hva hvb
  have hM := P8_prod hva hvc
  have hN := P8_prod hvb hvc
  have ha' : a.size ≤ 1000 := by omega
  have hb' : b.size ≤ 1000 := by omega
  have hg' : g.size ≤ 1000 := by omega
  have sG := natS_sz hG (by omega)
  have sM := natS_sz hM (by omega)
  have sN := natS_sz hN (by omega)
  have H1 := Lib.hid (ret_gcd ha' hb' rfl)
  have H2 := Lib.hid (ret_rgcd ha' hb' rfl)
  have H3 := Lib.hid (ret_gcd hb' ha' (Nat.gcd_comm (sval b) (sval a)))
  have H4 := Lib.hid (ret_rmul ha' hg' rfl)
  have H5 := Lib.hid (ret_rmul hb' hg' rfl)
  have H6 := Lib.hid (ret_gcd sM sN (n := Nat.gcd (sval a) (sval b) * sval g) (by rw [sval_natS, sval_natS, Nat.gcd_mul_right]))
  have H7 := Lib.hid (ret_rmul sG hg' (n := Nat.gcd (sval a) (sval b) * sval g) (by rw [sval_natS]))
  have hcx := hx.cap
  have hcy := hy.cap
  have hcz := hz.cap
  have e1 : min (n : Int) 20 = (n1 : Int) := by omega
  have e2 : min (m : Int) 20 = (m1 : Int) := by omega
  have e3 : min (p : Int) 20 = (p1 : Int) := by omega
  have i1 : (0 : Int) ≤ (n1 : Int) := by omega
  have i2 : (n1 : Int) ≤ (c : Int) := by omega
  have i3 : (0 : Int) ≤ (m1 : Int) := by omega
  have i4 : (m1 : Int) ≤ (d : Int) := by omega
  have i5 : (0 : Int) ≤ (p1 : Int) := by omega
  have i6 : (p1 : Int) ≤ (q : Int) := by omega
  have j1 : n1 ≤ c := by omega
  have j2 : m1 ≤ d := by omega
  have j3 : p1 ≤ q := by omega
  clear hae hbe hge hva hvb hvc hG hM hN hn1 hm1 hp1
  generalize natS (Nat.gcd (sval a) (sval b) * sval g) = tD at *
  generalize natS (Nat.gcd (sval a) (sval b)) = tG at *
  generalize natS (sval a * sval g) = tM at *
  generalize natS (sval b * sval g) = tN at *
  go_enter Tryz.func4, Tryz.ntmps4
  go_wp2_with fail
  refine (sanity_any _ HT.out).mono ?_
  rintro e w1 ⟨rfl, hB⟩
  go_wp2_with fail
  go_quiet ((first
    | (go_at_call 14; with_reducible exact Calls.quiet_of_same (HMA.out _ (below_drewN hB _)))
    | (go_at_call 14; with_reducible exact Calls.quiet_of_same (HMB.out _ (below_drewN hB _)))
    | (go_at_call 14; with_reducible exact Calls.quiet_of_same (HMC.out _ (below_drewN hB _)))))
  replace hB := below_drewN hB nq
  go_wp2_with (first
    | (go_at_call 21; (with_reducible refine (H1.out _).mono ?_); rintro e w' ⟨rfl, hb''⟩; replace hB := below_then hB hb''; clear hb'')
    | (go_at_call 22; (with_reducible refine (H2.out _).mono ?_); rintro e w' ⟨rfl, hb''⟩; replace hB := below_then hB hb''; clear hb'')
    | (go_at_call 21; (with_reducible refine (H3.out _).mono ?_); rintro e w' ⟨rfl, hb''⟩; replace hB := below_then hB hb''; clear hb'')
    | (go_at_call 16; (with_reducible refine (H4.out _).mono ?_); rintro e w' ⟨rfl, hb''⟩; replace hB := below_then hB hb''; clear hb'')
    | (go_at_call 16; (with_reducible refine (H5.out _).mono ?_); rintro e w' ⟨rfl, hb''⟩; replace hB := below_then hB hb''; clear hb'')
    | (go_at_call 21; (with_reducible refine (H6.out _).mono ?_); rintro e w' ⟨rfl, hb''⟩; replace hB := below_then hB hb''; clear hb'')
    | (go_at_call 16; (with_reducible refine (H7.out _).mono ?_); rintro e w' ⟨rfl, hb''⟩; replace hB := below_then hB hb''; clear hb''))
  go_ret
  exact ⟨rfl, hB⟩

end Go.Proofs.YthiogjpjkdnbjaaGreatDoor
