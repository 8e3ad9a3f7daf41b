/- Delays: rests, squares, runs, starts. -/
import Derived.Test.YtebgmlbbilcbbaaGreatDoorShaE
import Derived.Test.YtebgmlbbilcbbaaGreatDoorPlainDelay
import Derived.Test.YtebgmlbbilcbbaaGreatDoorRet
import Derived.Test.YtebgmlbbilcbbaaGreatDoorRefM
import Derived.Test.YtebgmlbbilcbbaaGreatDoorRefO
import Derived.Test.YtebgmlbbilcbbaaGreatDoorNatQ
import Derived.Test.YtebgmlbbilcbbaaGreatDoorNatS
namespace Go.Proofs.YtebgmlbbilcbbaaGreatDoor
open Go.RowKit

/-- The tables are as the program lays them. -/
structure Tabs (w : World) : Prop where
  k : KTab w
  f : FTab w
  p : Pow10 w
theorem Tabs.below {w w' : World} (h : Tabs w) (hb : Below w.heap.size w w') : Tabs w' := ⟨h.k.below hb, h.f.below hb, h.p.below hb⟩
/-- A call that returns a value in every world with the tables. -/
abbrev RetT (f : FuncId) (args : Array Value) (v : Value) : Prop := ∀ W : World, Tabs W → Calls Tryz.prog f args W fun e w' => e = .returned v ∧ Below W.heap.size W w'
theorem RetT.of {f : FuncId} {args : Array Value} {v u : Value} (h : RetT f args v) (e : v = u) : RetT f args u := e ▸ h
theorem Ret.tabs {f : FuncId} {args : Array Value} {v : Value} (h : Ret f args v) : RetT f args v := fun W _ => h W

theorem natS_mod (n : Nat) : (natS (n % modN)).size ≤ 16 := natS_size (Nat.lt_trans (mod_lt n) modN_lt)
theorem natS_lt_mod {n : Nat} (h : n < modN) : (natS n).size ≤ 16 := natS_size (Nat.lt_trans h modN_lt)
theorem modS_size : modS.size = 16 := rfl

set_option maxHeartbeats 400000 in
theorem rest_q (x : ByteArray) (hx : x.size ≤ 1000) : Ret 78 #[.string x] (.string (natS (sval x % modN))) := by
  intro w
  have m1 := Lib.hid (ret_quo (a := x) (b := modS) hx (by decide) rfl sval_modS (by decide) : Ret 134 #[.string x, .string modS] _)
  go_enter Tryz.func78, Tryz.ntmps78
  go_wp2_with fail
  refine (m1.out _).mono ?_
  rintro e w' ⟨rfl, hb⟩
  go_wp2_with fail
  go_ret
  exact ⟨rfl, hb⟩
set_option maxHeartbeats 400000 in
theorem rRest_q (x : ByteArray) (hx : x.size ≤ 1000) : Ret 18 #[.string x] (.string (natS (sval x % modN))) := by
  intro w
  have m1 : Hid (Ret 71 #[.string x, .string modS] (.tuple #[.string (natS (sval x / modN)), .string (natS (sval x % modN)), .bool true])) := Lib.hid (fun W => by
    have := rQuo x modS W (by omega) (by decide)
    unfold quoRes at this
    rw [sval_modS, if_neg (by decide)] at this
    exact this)
  go_enter Tryz.func18, Tryz.ntmps18
  go_wp2_with fail
  refine (m1.out _).mono ?_
  rintro e w' ⟨rfl, hb⟩
  go_wp2_with fail
  go_ret
  exact ⟨rfl, hb⟩

theorem Square_q (x : ByteArray) (hx : x.size ≤ 400) : Ret 40 #[.string x] (.string (natS (sval x * sval x % modN))) := by
  intro w
  have hr := natS_mod (sval x)
  have m1 := Lib.hid (rest_q x (by omega))
  have m2 := Lib.hid (ret_mul (a := natS (sval x % modN)) (b := natS (sval x % modN)) (by omega) (by omega) rfl)
  have m3 := Lib.hid (rest_q (natS (sval (natS (sval x % modN)) * sval (natS (sval x % modN)))) (by
    rw [sval_natS]
    exact Nat.le_trans (natS_size (P8_prod (Nat.lt_trans (mod_lt _) modN_lt) (Nat.lt_trans (mod_lt _) modN_lt))) (by omega)))
  have e : sval (natS (sval (natS (sval x % modN)) * sval (natS (sval x % modN)))) % modN = sval x * sval x % modN := by rw [sval_natS, sval_natS, sq_mod]
  rw [← e]
  generalize natS (sval (natS (sval x % modN)) * sval (natS (sval x % modN))) = c at m2 m3 ⊢
  generalize natS (sval x % modN) = b at m1 m2 hr ⊢
  go_enter Tryz.func40, Tryz.ntmps40
  go_wp2_with fail
  refine (m1.out _).mono ?_
  rintro e w1 ⟨rfl, hb1⟩
  go_wp2_with fail
  refine (m2.out _).mono ?_
  rintro e w2 ⟨rfl, hb2⟩
  go_wp2_with fail
  refine (m3.out _).mono ?_
  rintro e w3 ⟨rfl, hb3⟩
  go_wp2_with fail
  go_ret
  exact ⟨rfl, below_then (below_then hb1 hb2) hb3⟩
theorem rSquare_q (x : ByteArray) (hx : x.size ≤ 400) : Ret 20 #[.string x] (.string (natS (sval x * sval x % modN))) := by
  intro w
  have m2 : Hid (Ret 42 #[.string x, .string x] (.string (natS (sval x * sval x)))) := Lib.hid (fun W => rMul x x W (by omega) (by omega))
  have hs : (natS (sval x * sval x)).size ≤ 1000 := Nat.le_trans (natS_size (P8_prod (sval_le hx) (sval_le hx))) (by omega)
  have m3 := Lib.hid (rRest_q (natS (sval x * sval x)) hs)
  have e : sval (natS (sval x * sval x)) % modN = sval x * sval x % modN := by rw [sval_natS]
  rw [← e]
  generalize natS (sval x * sval x) = c at m2 m3 ⊢
  go_enter Tryz.func20, Tryz.ntmps20
  go_wp2_with fail
  refine (m2.out _).mono ?_
  rintro e w2 ⟨rfl, hb2⟩
  go_wp2_with fail
  refine (m3.out _).mono ?_
  rintro e w3 ⟨rfl, hb3⟩
  go_wp2_with fail
  go_ret
  exact ⟨rfl, below_then hb2 hb3⟩

/-- The state behind some squarings is a string of at most 16 bytes. -/
theorem ran_size (n t : Nat) : (natS (ranN n t)).size ≤ 16 := natS_lt_mod (ranN_lt n t)
theorem ran_step (n t : Nat) : sval (natS (ranN n t)) * sval (natS (ranN n t)) % modN = ranN n (t + 1) := by rw [sval_natS]; rfl

set_option maxHeartbeats 1000000 in
theorem rRan_q (x : ByteArray) (t : Nat) (hx : x.size ≤ 1000) (ht : t ≤ 9223372036854775807) : Ret 88 #[.string x, .int .i64 (t : Int)] (.string (natS (ranN (sval x) t))) := by
  intro w
  have m1 : Hid (Ret 18 #[.string x] (.string (natS (ranN (sval x) 0)))) := Lib.hid (rRest_q x hx)
  have m2 : Hid (∀ i, Ret 20 #[.string (natS (ranN (sval x) i))] (.string (natS (ranN (sval x) (i + 1))))) := Lib.hid (fun i => (rSquare_q _ (Nat.le_trans (ran_size _ _) (by omega))).of (by rw [ran_step]))
  generalize sval x = n at m1 m2 ⊢
  obtain ⟨R, hR⟩ : ∃ R : Nat → ByteArray, ∀ i, natS (ranN n i) = R i := ⟨_, fun _ => rfl⟩
  rw [hR] at m1 ⊢
  replace m2 : Hid (∀ i, Ret 20 #[.string (R i)] (.string (R (i + 1)))) := Lib.hid (fun i => by have := m2.out i; rwa [hR, hR] at this)
  clear hR
  go_enter Tryz.func88, Tryz.ntmps88
  go_wp2_with fail
  refine (m1.out _).mono ?_
  rintro e w1 ⟨rfl, hb1⟩
  go_wp2_with fail
  go_loopw [5, 6] (fun s5 s6 wr => ∃ i : Nat, i ≤ t ∧ s6 = .int .i64 (i : Int) ∧ s5 = .string (R i) ∧ Below w.heap.size w wr) (fun _ s6 _ => t - (intOf s6).toNat)
  case atStart => exact ⟨0, Nat.zero_le _, rfl, rfl, hb1⟩
  case round =>
    obtain ⟨i, hi, rfl, rfl, hB⟩ := hrel
    by_cases hlt : i < t
    · have hlt' : (i : Int) < (t : Int) := by omega
      go_wp2_with fail
      refine (m2.out i _).mono ?_
      rintro e w2 ⟨rfl, hb2⟩
      go_wp2_with fail
      go_roundw
      case rel => exact ⟨i + 1, hlt, by go_num, rfl, below_then hB hb2⟩
      case measure => simp [intOf]; omega
    · obtain rfl : i = t := by omega
      go_wp2_with fail
      go_ret
      exact ⟨rfl, hB⟩

end Go.Proofs.YtebgmlbbilcbbaaGreatDoor
