/- Joined by a program: DelA, Made, DelB, DelC. -/
import Derived.Test.YtebgmlbbilcbbaaGreatDoorShaTwo
import Derived.Test.YtebgmlbbilcbbaaGreatDoorPlainMore
import Derived.Test.YtebgmlbbilcbbaaGreatDoorHelps
import Derived.Test.YtebgmlbbilcbbaaGreatDoorRefFour
import Derived.Test.YtebgmlbbilcbbaaGreatDoorNatQ
import Derived.BigQuiet
namespace Go.Proofs.YtebgmlbbilcbbaaGreatDoor
open Go.RowKit

/-- The tables are as the program lays them. -/
structure Tabs (w : World) : Prop where
  k : KTab w
  f : FTab w
  p : Pow10 w
theorem Tabs.below {w w' : World} (h : Tabs w) (hb : Below w.heap.size w w') : Tabs w' := ⟨h.k.below hb, h.f.below hb, h.p.below hb⟩
/-- A call that returns a value in every world with the tables. -/
abbrev RetT (f : FuncId) (args : Array Value) (v : Value) : Prop := ∀ W : World, Tabs W → Calls Tryz.prog f args W fun e w' => e = .returned v ∧ Below W.heap.size W w'
theorem RetT.of {f : FuncId} {args : Array Value} {v u : Value} (h : RetT f args v) (e : v = u) : RetT f args u := e ▸ h
theorem Ret.tabs {f : FuncId} {args : Array Value} {v : Value} (h : Ret f args v) : RetT f args v := fun W _ => h W

theorem natS_mod (n : Nat) : (natS (n % modN)).size ≤ 16 := natS_size (Nat.lt_trans (mod_lt n) modN_lt)
theorem natS_lt_mod {n : Nat} (h : n < modN) : (natS n).size ≤ 16 := natS_size (Nat.lt_trans h modN_lt)
theorem modS_size : modS.size = 16 := rfl

set_option maxHeartbeats 400000 in
theorem rest_q (x : ByteArray) (hx : x.size ≤ 1000) : Ret 78 #[.string x] (.string (natS (sval x % modN))) := by
  intro w
  have m1 := Lib.hid (ret_quo (a := x) (b := modS) hx (by decide) rfl sval_modS (by decide) : Ret 134 #[.string x, .string modS] _)
  go_enter Tryz.func78, Tryz.ntmps78
  go_wp2_with fail
  refine (m1.out _).mono ?_
  rintro e w' ⟨rfl, hb⟩
  go_wp2_with fail
  go_ret
  exact ⟨rfl, hb⟩
set_option maxHeartbeats 400000 in
theorem rRest_q (x : ByteArray) (hx : x.size ≤ 1000) : Ret 18 #[.string x] (.string (natS (sval x % modN))) := by
  intro w
  have m1 : Hid (Ret 71 #[.string x, .string modS] (.tuple #[.string (natS (sval x / modN)), .string (natS (sval x % modN)), .bool true])) := Lib.hid (fun W => by
    have := rQuo x modS W (by omega) (by decide)
    unfold quoRes at this
    rw [sval_modS, if_neg (by decide)] at this
    exact this)
  go_enter Tryz.func18, Tryz.ntmps18
  go_wp2_with fail
  refine (m1.out _).mono ?_
  rintro e w' ⟨rfl, hb⟩
  go_wp2_with fail
  go_ret
  exact ⟨rfl, hb⟩

theorem Square_q (x : ByteArray) (hx : x.size ≤ 400) : Ret 40 #[.string x] (.string (natS (sval x * sval x % modN))) := by
  intro w
  have hr := natS_mod (sval x)
  have m1 := Lib.hid (rest_q x (by omega))
  have m2 := Lib.hid (ret_mul (a := natS (sval x % modN)) (b := natS (sval x % modN)) (by omega) (by omega) rfl)
  have m3 := Lib.hid (rest_q (natS (sval (natS (sval x % modN)) * sval (natS (sval x % modN)))) (by
    rw [sval_natS]
    exact Nat.le_trans (natS_size (P8_prod (Nat.lt_trans (mod_lt _) modN_lt) (Nat.lt_trans (mod_lt _) modN_lt))) (by omega)))
  have e : sval (natS (sval (natS (sval x % modN)) * sval (natS (sval x % modN)))) % modN = sval x * sval x % modN := by rw [sval_natS, sval_natS, sq_mod]
  rw [← e]
  generalize natS (sval (natS (sval x % modN)) * sval (natS (sval x % modN))) = c at m2 m3 ⊢
  generalize natS (sval x % modN) = b at m1 m2 hr ⊢
  go_enter Tryz.func40, Tryz.ntmps40
  go_wp2_with fail
  refine (m1.out _).mono ?_
  rintro e w1 ⟨rfl, hb1⟩
  go_wp2_with fail
  refine (m2.out _).mono ?_
  rintro e w2 ⟨rfl, hb2⟩
  go_wp2_with fail
  refine (m3.out _).mono ?_
  rintro e w3 ⟨rfl, hb3⟩
  go_wp2_with fail
  go_ret
  exact ⟨rfl, below_then (below_then hb1 hb2) hb3⟩
theorem rSquare_q (x : ByteArray) (hx : x.size ≤ 400) : Ret 20 #[.string x] (.string (natS (sval x * sval x % modN))) := by
  intro w
  have m2 : Hid (Ret 42 #[.string x, .string x] (.string (natS (sval x * sval x)))) := Lib.hid (fun W => rMul x x W (by omega) (by omega))
  have hs : (natS (sval x * sval x)).size ≤ 1000 := Nat.le_trans (natS_size (P8_prod (sval_le hx) (sval_le hx))) (by omega)
  have m3 := Lib.hid (rRest_q (natS (sval x * sval x)) hs)
  have e : sval (natS (sval x * sval x)) % modN = sval x * sval x % modN := by rw [sval_natS]
  rw [← e]
  generalize natS (sval x * sval x) = c at m2 m3 ⊢
  go_enter Tryz.func20, Tryz.ntmps20
  go_wp2_with fail
  refine (m2.out _).mono ?_
  rintro e w2 ⟨rfl, hb2⟩
  go_wp2_with fail
  refine (m3.out _).mono ?_
  rintro e w3 ⟨rfl, hb3⟩
  go_wp2_with fail
  go_ret
  exact ⟨rfl, below_then hb2 hb3⟩

/-- The state behind some squarings is a string of at most 16 bytes. -/
theorem ran_size (n t : Nat) : (natS (ranN n t)).size ≤ 16 := natS_lt_mod (ranN_lt n t)
theorem ran_step (n t : Nat) : sval (natS (ranN n t)) * sval (natS (ranN n t)) % modN = ranN n (t + 1) := by rw [sval_natS]; rfl

set_option maxHeartbeats 1000000 in
theorem rRan_q (x : ByteArray) (t : Nat) (hx : x.size ≤ 1000) (ht : t ≤ 9223372036854775807) : Ret 88 #[.string x, .int .i64 (t : Int)] (.string (natS (ranN (sval x) t))) := by
  intro w
  have m1 : Hid (Ret 18 #[.string x] (.string (natS (ranN (sval x) 0)))) := Lib.hid (rRest_q x hx)
  have m2 : Hid (∀ i, Ret 20 #[.string (natS (ranN (sval x) i))] (.string (natS (ranN (sval x) (i + 1))))) := Lib.hid (fun i => (rSquare_q _ (Nat.le_trans (ran_size _ _) (by omega))).of (by rw [ran_step]))
  generalize sval x = n at m1 m2 ⊢
  obtain ⟨R, hR⟩ : ∃ R : Nat → ByteArray, ∀ i, natS (ranN n i) = R i := ⟨_, fun _ => rfl⟩
  rw [hR] at m1 ⊢
  replace m2 : Hid (∀ i, Ret 20 #[.string (R i)] (.string (R (i + 1)))) := Lib.hid (fun i => by have := m2.out i; rwa [hR, hR] at this)
  clear hR
  go_enter Tryz.func88, Tryz.ntmps88
  go_wp2_with fail
  refine (m1.out _).mono ?_
  rintro e w1 ⟨rfl, hb1⟩
  go_wp2_with fail
  go_loopw [5, 6] (fun s5 s6 wr => ∃ i : Nat, i ≤ t ∧ s6 = .int .i64 (i : Int) ∧ s5 = .string (R i) ∧ Below w.heap.size w wr) (fun _ s6 _ => t - (intOf s6).toNat)
  case atStart => exact ⟨0, Nat.zero_le _, rfl, rfl, hb1⟩
  case round =>
    obtain ⟨i, hi, rfl, rfl, hB⟩ := hrel
    by_cases hlt : i < t
    · have hlt' : (i : Int) < (t : Int) := by omega
      go_wp2_with fail
      refine (m2.out i _).mono ?_
      rintro e w2 ⟨rfl, hb2⟩
      go_wp2_with fail
      go_roundw
      case rel => exact ⟨i + 1, hlt, by go_num, rfl, below_then hB hb2⟩
      case measure => simp [intOf]; omega
    · obtain rfl : i = t := by omega
      go_wp2_with fail
      go_ret
      exact ⟨rfl, hB⟩

end Go.Proofs.YtebgmlbbilcbbaaGreatDoor
namespace Go.Proofs.YtebgmlbbilcbbaaGreatDoor
open Go.RowKit

/-- The number that Made makes. -/
def madeS (l : List UInt8) : ByteArray := ⟨(l.take 40).toArray⟩
theorem madeS_size (l : List UInt8) : (madeS l).size ≤ 40 := by show (l.take 40).toArray.size ≤ 40; simp; omega

set_option maxHeartbeats 400000 in
theorem rMade (A : Option Addr) (n c : Nat) (l : List UInt8) (w : World) (h : BDg w A n c l) (hn : n ≤ 9223372036854775807) :
    Calls Tryz.prog 19 #[.slice A n c] w fun e w' => e = .returned (.string (madeS l)) ∧ w = w' := by
  obtain ⟨m, hm⟩ : ∃ m, m = min n 40 := ⟨_, rfl⟩
  have hmn : m ≤ n := by omega
  have hcap := h.cap
  have hcv := run_bdg_nat (h.take hmn)
  have hmin : min (n : Int) 40 = (m : Int) := by omega
  have HS : Hid ((⟨(l.take m).toArray⟩ : ByteArray) = madeS l) := Lib.hid (by
    have e : l.take m = l.take 40 := by
      rw [hm, ← h.len]
      rcases Nat.le_total l.length 40 with h1 | h1
      · rw [Nat.min_eq_left h1, List.take_of_length_le (Nat.le_refl _), List.take_of_length_le h1]
      · rw [Nat.min_eq_right h1]
    unfold madeS
    rw [e])
  clear hm
  go_enter Tryz.func19, Tryz.ntmps19
  go_wp2_with fail
  go_ret
  exact ⟨by rw [← HS.out]; rfl, rfl⟩

end Go.Proofs.YtebgmlbbilcbbaaGreatDoor
namespace Go.Proofs.YtebgmlbbilcbbaaGreatDoor
open Go.RowKit

/-- The cells of a work. -/
def workA (x : ByteArray) (d t : Int) : Array Value := #[.string x, .int .i64 d, .int .i64 t]

theorem New_no (x : ByteArray) (t : Int) (h : t < 0 ∨ 1048576 < t) : Ret 32 #[.string x, .int .i64 t] (.pointer none) := by
  intro w
  by_cases h0 : t < 0
  · have hd : decide (t < 0) = true := by simp [h0]
    go_enter Tryz.func32, Tryz.ntmps32
    go_wp2_with fail
    go_ret
    exact ⟨rfl, Below.refl _ _⟩
  · have hd : decide (t < 0) = false := by simp [h0]
    have h1 : 1048576 < t := by omega
    go_enter Tryz.func32, Tryz.ntmps32
    go_wp2_with fail
    go_ret
    exact ⟨rfl, Below.refl _ _⟩
theorem New_yes (x : ByteArray) (t : Nat) (hx : x.size ≤ 1000) (h : t ≤ 1048576) (w : World) : Calls Tryz.prog 32 #[.string x, .int .i64 (t : Int)] w fun e w' => ∃ g, e = .returned (.pointer (some ⟨g, 0, none⟩)) ∧ w.heap.size ≤ g ∧ Blk w' g 46 (workA (natS (sval x % modN)) 0 t) ∧ Below w.heap.size w w' := by
  have m1 := Lib.hid (rest_q x hx)
  have h0 : ¬ (t : Int) < 0 := by omega
  have h1 : ¬ 1048576 < (t : Int) := by omega
  go_enter Tryz.func32, Tryz.ntmps32
  go_wp2_with fail
  refine (m1.out _).mono ?_
  rintro e w1 ⟨rfl, hb1⟩
  go_wp2_with fail
  go_ret
  exact ⟨_, rfl, hb1.size, Blk.new _ _ _, below_al hb1 _⟩

theorem once_any (g : Nat) (x y : ByteArray) (d : Nat) (t : Int) (hd : d ≤ 1048576) (hm : Ret 40 #[.string x] (.string y)) (w : World) (hk : Blk w g 46 (workA x d t)) :
    Calls Tryz.prog 84 #[.pointer (some ⟨g, 0, none⟩)] w fun e w' => e = .returned (.tuple #[]) ∧ Blk w' g 46 (workA y ((d + 1 : Nat) : Int) t) ∧ w.grownBy w' (some g) := by
  have m1 := Lib.hid hm
  have c0 : w.cell? ⟨g, 0, none⟩ = some (.string x) := hk.cell 0
  clear hm
  go_enter Tryz.func84, Tryz.ntmps84
  go_wp2_with fail
  refine (m1.out _).mono ?_
  rintro e w1 ⟨rfl, hb1⟩
  have hk1 := hk.below hb1 hk.lt
  have d0 : w1.cell? ⟨g, 0, none⟩ = some (.string x) := hk1.cell 0
  have d1 : w1.cell? ⟨g, 1, none⟩ = some (.int .i64 (d : Int)) := hk1.cell 1
  have f0 := hk1.frozen 0
  have f1 := hk1.frozen 1
  go_wp2_with fail
  go_end0
  refine ⟨rfl, ?_, ?_⟩
  · have h2 := (hk1.set_ 0 (.string y)).set_ 1 (.int .i64 ((d : Int) + 1))
    exact h2
  · exact grown_set (grown_set (grown_of_below hb1 _) 0 _) 1 _

set_option maxRecDepth 100000 in
set_option maxHeartbeats 2000000 in
theorem Step_any (g : Nat) (R : Nat → ByteArray) (d t : Nat) (n : Int) (hdt : d ≤ t) (ht : t ≤ 1048576) (hn : -9223372036854775808 ≤ n ∧ n ≤ 9223372036854775807) (hR : ∀ i, d ≤ i → i < t → Ret 40 #[.string (R i)] (.string (R (i + 1)))) (w : World) (hk : Blk w g 46 (workA (R d) d t)) :
    Calls Tryz.prog 30 #[.pointer (some ⟨g, 0, none⟩), .int .i64 n] w fun e w' => e = .returned (.bool (decide (d + min n.toNat (t - d) = t))) ∧ Blk w' g 46 (workA (R (d + min n.toNat (t - d))) ((d + min n.toNat (t - d) : Nat) : Int) t) ∧ w.grownBy w' (some g) := by
  obtain ⟨D, hD⟩ : ∃ D, D = d + min n.toNat (t - d) := ⟨_, rfl⟩
  rw [← hD]
  have HD := Lib.hid hD
  have HR := Lib.hid hR
  clear hD hR
  go_enter Tryz.func30, Tryz.ntmps30
  go_wp2_with fail
  go_loopw [1] (fun s1 wr => ∃ (i : Nat) (m : Int), s1 = .int .i64 m ∧ Hid (d ≤ i ∧ i ≤ t ∧ i + min m.toNat (t - i) = D) ∧ i ≤ 1048576 ∧ (-9223372036854775808 ≤ m ∧ m ≤ 9223372036854775807) ∧ Blk wr g 46 (workA (R i) i t) ∧ w.grownBy wr (some g)) (fun s1 _ => (intOf s1).toNat)
  case atStart => exact ⟨d, n, rfl, Lib.hid ⟨Nat.le_refl _, hdt, HD.out.symm⟩, by omega, hn, hk, grown_refl _ _⟩
  case round =>
    obtain ⟨i, m, rfl, HI, hi, hm, hk, hg⟩ := hrel
    have c1 : wr.cell? ⟨g, 1, none⟩ = some (.int .i64 (i : Int)) := hk.cell 1
    have c2 : wr.cell? ⟨g, 2, none⟩ = some (.int .i64 (t : Int)) := hk.cell 2
    by_cases h0 : 0 < m
    · by_cases hlt : i < t
      · have hlt' : (i : Int) < (t : Int) := by omega
        have hh := HI.out
        have m1 := Lib.hid (fun W h => once_any g (R i) (R (i + 1)) i t hi (HR.out i hh.1 hlt) W h)
        clear hh
        go_upto_region 4 with fail
        go_quiet (fail)
        have hk' : Blk (wr.drewN nq) g 46 (workA (R i) i t) := hk
        go_wp2_with (go_at_call 84; (with_reducible refine (m1.out _ hk').mono ?_); rintro e w1 ⟨rfl, hk1, hg1⟩)
        go_roundw
        case rel =>
          refine ⟨i + 1, m - 1, rfl, Lib.hid ?_, by omega, by omega, hk1, ?_⟩
          · have := HI.out; omega
          · exact grown_trans hg (grown_trans (grown_of_below (below_drewN (Below.refl _ _) nq) _) hg1)
        case measure => simp [intOf]; omega
      · obtain rfl : i = t := by have := HI.out; omega
        have hlt' : ¬ (i : Int) < (i : Int) := by omega
        have hDt : D = i := by have := HI.out; omega
        have hee : ((i : Int) == (i : Int)) = true := by simp
        go_upto_region 4 with fail
        go_quiet (fail)
        go_upto_region 7 with fail
        have c1' : (wr.drewN nq).cell? ⟨g, 1, none⟩ = some (.int .i64 (i : Int)) := c1
        have c2' : (wr.drewN nq).cell? ⟨g, 2, none⟩ = some (.int .i64 (i : Int)) := c2
        have hk' : Blk (wr.drewN nq) g 46 (workA (R i) i i) := hk
        have hg' := grown_trans hg (grown_of_below (below_drewN (Below.refl wr.heap.size wr) nq) (some g))
        generalize wr.drewN nq = wq at c1' c2' hk' hg' ⊢
        go_quiet (fail)
        go_wp2_with fail
        go_ret
        exact ⟨rfl, hk', grown_trans hg' (grown_of_below (below_drewN (Below.refl _ _) _) _)⟩
    · have hDt : D = i := by have := HI.out; omega
      have h0' : decide (0 < m) = false := by simp [h0]
      go_upto_region 4 with fail
      go_quiet (fail)
      go_upto_region 7 with fail
      have c1' : (wr.drewN nq).cell? ⟨g, 1, none⟩ = some (.int .i64 (i : Int)) := c1
      have c2' : (wr.drewN nq).cell? ⟨g, 2, none⟩ = some (.int .i64 (t : Int)) := c2
      have hk' : Blk (wr.drewN nq) g 46 (workA (R i) i t) := hk
      have hg' := grown_trans hg (grown_of_below (below_drewN (Below.refl wr.heap.size wr) nq) (some g))
      generalize wr.drewN nq = wq at c1' c2' hk' hg' ⊢
      go_quiet (fail)
      go_wp2_with fail
      go_ret
      refine ⟨?_, hk', grown_trans hg' (grown_of_below (below_drewN (Below.refl _ _) _) _)⟩
      refine congrArg (fun b => Ending.returned (.bool b)) ?_
      show ((i : Int) == (t : Int)) = _
      rw [Bool.eq_iff_iff]
      simp
      omega

theorem Step_nil (n : Int) : Ret 30 #[.pointer none, .int .i64 n] (.bool false) := by
  intro w
  go_enter Tryz.func30, Tryz.ntmps30
  go_wp2_with fail
  go_ret
  exact ⟨rfl, Below.refl _ _⟩
theorem End_nil : Ret 29 #[.pointer none] (.tuple #[.string ⟨#[]⟩, .bool false]) := by
  intro w
  go_enter Tryz.func29, Tryz.ntmps29
  go_upto_region 1 with fail
  go_quiet (fail)
  go_wp2_with fail
  go_ret2
  exact ⟨rfl, below_drewN (Below.refl _ _) _⟩
theorem End_yes (g : Nat) (x : ByteArray) (d : Int) (w : World) (hk : Blk w g 46 (workA x d d)) :
    Calls Tryz.prog 29 #[.pointer (some ⟨g, 0, none⟩)] w fun e w' => e = .returned (.tuple #[.string x, .bool true]) ∧ Below w.heap.size w w' := by
  have c0 : w.cell? ⟨g, 0, none⟩ = some (.string x) := hk.cell 0
  have c1 : w.cell? ⟨g, 1, none⟩ = some (.int .i64 d) := hk.cell 1
  have c2 : w.cell? ⟨g, 2, none⟩ = some (.int .i64 d) := hk.cell 2
  have he : (d != d) = false := by simp
  go_enter Tryz.func29, Tryz.ntmps29
  go_upto_region 1 with fail
  go_quiet (fail)
  go_wp2_with fail
  go_ret2
  exact ⟨rfl, below_drewN (Below.refl _ _) _⟩

set_option maxHeartbeats 1000000 in
theorem Run_yes (x : ByteArray) (t : Nat) (hx : x.size ≤ 1000) (ht : t ≤ 1048576) : Ret 36 #[.string x, .int .i64 (t : Int)] (.tuple #[.string (natS (ranN (sval x) t)), .bool true]) := by
  intro w
  obtain ⟨R, hR⟩ : ∃ R : Nat → ByteArray, ∀ i, R i = natS (ranN (sval x) i) := ⟨_, fun _ => rfl⟩
  have m1 := Lib.hid (fun W => New_yes x t hx ht W)
  have m2 : Hid (∀ (g : Nat) (W : World), Blk W g 46 (workA (R 0) 0 t) → Calls Tryz.prog 30 #[.pointer (some ⟨g, 0, none⟩), .int .i64 (t : Int)] W fun e w' => e = .returned (.bool true) ∧ Blk w' g 46 (workA (R t) t t) ∧ W.grownBy w' (some g)) := Lib.hid (fun g W h => by
    have := Step_any g R 0 t t (Nat.zero_le _) ht (by omega) (fun i _ hi => by rw [hR, hR]; exact (Square_q _ (Nat.le_trans (ran_size _ _) (by omega))).of (by rw [ran_step])) W h
    rw [show 0 + min (t : Int).toNat (t - 0) = t by omega, decide_eq_true rfl] at this
    exact this)
  rw [← hR]
  have hR0 : R 0 = natS (sval x % modN) := hR 0
  rw [← hR0] at m1
  clear hR hR0
  go_enter Tryz.func36, Tryz.ntmps36
  go_wp2_with fail
  refine (m1.out _).mono ?_
  rintro e w1 ⟨g, rfl, hg, hk, hb1⟩
  go_wp2_with fail
  refine (m2.out g _ hk).mono ?_
  rintro e w2 ⟨rfl, hk2, hg2⟩
  go_wp2_with fail
  refine (End_yes g _ _ _ hk2).mono ?_
  rintro e w3 ⟨rfl, hb3⟩
  go_wp2_with fail
  go_ret2
  refine ⟨rfl, below_then (hb1.grown hg2 hb1.size (fun k e => by cases e; exact hg)) hb3⟩
theorem Run_no (x : ByteArray) (t : Int) (h : t < 0 ∨ 1048576 < t) : Ret 36 #[.string x, .int .i64 t] (.tuple #[.string ⟨#[]⟩, .bool false]) := by
  intro w
  have m1 := Lib.hid (New_no x t h)
  go_enter Tryz.func36, Tryz.ntmps36
  go_wp2_with fail
  refine (m1.out _).mono ?_
  rintro e w1 ⟨rfl, hb1⟩
  go_wp2_with fail
  go_ret2
  exact ⟨rfl, hb1⟩
theorem rRun_yes (x : ByteArray) (t : Nat) (hx : x.size ≤ 1000) (ht : t ≤ 1048576) : Ret 37 #[.string x, .int .i64 (t : Int)] (.tuple #[.string (natS (ranN (sval x) t)), .bool true]) := by
  intro w
  have m1 := Lib.hid (rRan_q x t hx (by omega))
  have h0 : ¬ (t : Int) < 0 := by omega
  have h1 : ¬ 1048576 < (t : Int) := by omega
  generalize natS (ranN (sval x) t) = y at m1 ⊢
  go_enter Tryz.func37, Tryz.ntmps37
  go_wp2_with fail
  refine (m1.out _).mono ?_
  rintro e w1 ⟨rfl, hb1⟩
  go_wp2_with fail
  go_ret2
  exact ⟨rfl, hb1⟩

end Go.Proofs.YtebgmlbbilcbbaaGreatDoor
namespace Go.Proofs.YtebgmlbbilcbbaaGreatDoor
open Go.RowKit

theorem sval_of (l : List UInt8) : sval ⟨l.toArray⟩ = bv l := by unfold sval; simp
theorem run_nat_bytes {w : World} {A : Option Addr} {n c : Nat} {l : List UInt8} (h : BDg w A n c l) :
    (convert 22 25 (.slice A n c)).run Tryz.prog w = .ok (.string ⟨l.toArray⟩) w := by
  rw [run_convert_bytes_string w 22 25 5 _ _ _ Tryz.underlying22 Tryz.underlying5 Tryz.underlying25]
  rcases Nat.eq_zero_or_pos n with h0 | h0
  · subst h0
    have : l = [] := List.eq_nil_of_length_eq_zero h.len
    subst this
    cases A <;> rfl
  · obtain ⟨b, o, rfl, hc⟩ := h.at_ h0
    have hld := run_loadCells_list (P := Tryz.prog) w ⟨b, o, none⟩ ((l.map fun b : UInt8 => (b.toNat : Int)).map (Value.int .u8)) (fun j v hv => by
      rw [List.map_map, List.getElem?_map] at hv
      obtain ⟨d, hd, rfl⟩ := Option.map_eq_some_iff.1 hv
      rw [add_addr]
      exact hc j d hd)
    rw [List.length_map, List.length_map, h.len] at hld
    rw [run_bytesToString w _ n c _ hld, push_all]
    simp
theorem nameStored {P : Program} {code : Code} {Q : Exit → Act → World → Prop} {act : Act} {W : World} {t1 : TypeId} {c1 : Array Value} (cs : Array Value)
    (h : ∀ W0 : World, Blk W0 W.heap.size t1 cs → Below W.heap.size W W0 → code.wp P Q act W0) : code.wp P Q act ((W.alloc (.cells c1 t1)).setRow W.heap.size cs) :=
  h _ ((Blk.new W t1 c1).rowA cs) (below_setRow (below_al (Below.refl _ _) _) (Nat.le_refl _) _)
/-- What a text begins with. -/
def startL (l : List UInt8) : List UInt8 := [115, 116, 97, 114, 116, 47] ++ l
def startN (l : List UInt8) : Nat := bv (shaS (startL l)) % modN
set_option maxRecDepth 100000 in
set_option maxHeartbeats 1000000 in
theorem Start_q (s : ByteArray) (hs : s.size ≤ 900000) : RetT 38 #[.string s] (.string (natS (startN s.data.toList))) := by
  intro w hT
  obtain ⟨u, hu⟩ : ∃ u, u = (⟨#[115, 116, 97, 114, 116, 47]⟩ : ByteArray) ++ s := ⟨_, rfl⟩
  have hul : u.data.toList = startL s.data.toList := by rw [hu, ByteArray.data_append, Array.toList_append]; rfl
  have hus : u.size ≤ 1000000 := by rw [hu, ByteArray.size_append]; show 6 + s.size ≤ _; omega
  have hcat := hu.symm
  obtain ⟨h, hh⟩ : ∃ h, h = shaS (startL s.data.toList) := ⟨_, rfl⟩
  have hl : h.length = 32 := by rw [hh]; exact sha_len _
  have m1 : Hid (∀ W, Tabs W → Calls Tryz.prog 92 #[.string u] W fun e w' => e = .returned (.agg (u8a h)) ∧ Below W.heap.size W w') := Lib.hid (fun W hW => by rw [hh, ← hul]; exact Sum_any u W hus hW.k hW.f)
  have m2 : Hid (Ret 78 #[.string ⟨h.toArray⟩] (.string (natS (startN s.data.toList)))) := Lib.hid ((rest_q ⟨h.toArray⟩ (by show h.toArray.size ≤ _; simp [hl])).of (by rw [sval_of, hh]; rfl))
  generalize natS (startN s.data.toList) = r at m2 ⊢
  clear hu hul hh
  have HT := Lib.hid hT
  clear hT
  go_enter Tryz.func38, Tryz.ntmps38
  go_wp2_with fail
  refine (m1.out _ HT.out).mono ?_
  rintro e w1 ⟨rfl, hb1⟩
  have hsz : (u8a h).size = 32 := by simp [u8a, u8l, hl]
  go_upto_region 2 with (refine wpList_store_rowTo rfl 71 _ _ rfl rfl _ (u8a h) rfl rfl _ _ (Blk.new _ _ _) (by rw [hsz]; kernel_rfl) (by rw [hsz]; rfl) (u8a_one _) ?_)
  refine nameStored (u8a h) ?_
  intro W0 hk hb2
  have hcv := run_nat_bytes (hk.bdg (n := 32) (c := 32) hl (Nat.le_refl _))
  go_wp2_with fail
  refine (m2.out _).mono ?_
  rintro e w3 ⟨rfl, hb3⟩
  go_wp2_with fail
  go_ret
  exact ⟨rfl, below_then (below_then hb1 hb2) hb3⟩
set_option maxRecDepth 100000 in
set_option maxHeartbeats 1000000 in
theorem rStart_q (s : ByteArray) (hs : s.size ≤ 900000) : Ret 39 #[.string s] (.string (natS (startN s.data.toList))) := by
  intro w
  obtain ⟨u, hu⟩ : ∃ u, u = (⟨#[115, 116, 97, 114, 116, 47]⟩ : ByteArray) ++ s := ⟨_, rfl⟩
  have hul : u.data.toList = startL s.data.toList := by rw [hu, ByteArray.data_append, Array.toList_append]; rfl
  have hus : u.size ≤ 1000000 := by rw [hu, ByteArray.size_append]; show 6 + s.size ≤ _; omega
  have hcat := hu.symm
  obtain ⟨h, hh⟩ : ∃ h, h = shaS (startL s.data.toList) := ⟨_, rfl⟩
  have hl : h.length = 32 := by rw [hh]; exact sha_len _
  have m1 : Hid (∀ W : World, Calls Tryz.prog 64 #[.string u] W fun e w' => e = .returned (.agg (u8a h)) ∧ Below W.heap.size W w') := Lib.hid (fun W => by rw [hh, ← hul]; exact rSum_any u W hus)
  have m2 : Hid (Ret 18 #[.string ⟨h.toArray⟩] (.string (natS (startN s.data.toList)))) := Lib.hid ((rRest_q ⟨h.toArray⟩ (by show h.toArray.size ≤ _; simp [hl])).of (by rw [sval_of, hh]; rfl))
  generalize natS (startN s.data.toList) = r at m2 ⊢
  clear hu hul hh
  go_enter Tryz.func39, Tryz.ntmps39
  go_wp2_with fail
  refine (m1.out _).mono ?_
  rintro e w1 ⟨rfl, hb1⟩
  have hsz : (u8a h).size = 32 := by simp [u8a, u8l, hl]
  go_upto_region 2 with (refine wpList_store_rowTo rfl 71 _ _ rfl rfl _ (u8a h) rfl rfl _ _ (Blk.new _ _ _) (by rw [hsz]; kernel_rfl) (by rw [hsz]; rfl) (u8a_one _) ?_)
  refine nameStored (u8a h) ?_
  intro W0 hk hb2
  have hcv := run_nat_bytes (hk.bdg (n := 32) (c := 32) hl (Nat.le_refl _))
  go_wp2_with fail
  refine (m2.out _).mono ?_
  rintro e w3 ⟨rfl, hb3⟩
  go_wp2_with fail
  go_ret
  exact ⟨rfl, below_then (below_then hb1 hb2) hb3⟩

end Go.Proofs.YtebgmlbbilcbbaaGreatDoor
