/- Works of the delay: New, Step, End; Run. -/
import Derived.Test.YtebgmlbbilcbbaaGreatDoorDelA
import Derived.BigQuiet
namespace Go.Proofs.YtebgmlbbilcbbaaGreatDoor
open Go.RowKit

/-- The cells of a work. -/
def workA (x : ByteArray) (d t : Int) : Array Value := #[.string x, .int .i64 d, .int .i64 t]

theorem New_no (x : ByteArray) (t : Int) (h : t < 0 ∨ 1048576 < t) : Ret 32 #[.string x, .int .i64 t] (.pointer none) := by
  intro w
  by_cases h0 : t < 0
  · have hd : decide (t < 0) = true := by simp [h0]
    go_enter Tryz.func32, Tryz.ntmps32
    go_wp2_with fail
    go_ret
    exact ⟨rfl, Below.refl _ _⟩
  · have hd : decide (t < 0) = false := by simp [h0]
    have h1 : 1048576 < t := by omega
    go_enter Tryz.func32, Tryz.ntmps32
    go_wp2_with fail
    go_ret
    exact ⟨rfl, Below.refl _ _⟩
theorem New_yes (x : ByteArray) (t : Nat) (hx : x.size ≤ 1000) (h : t ≤ 1048576) (w : World) : Calls Tryz.prog 32 #[.string x, .int .i64 (t : Int)] w fun e w' => ∃ g, e = .returned (.pointer (some ⟨g, 0, none⟩)) ∧ w.heap.size ≤ g ∧ Blk w' g 46 (workA (natS (sval x % modN)) 0 t) ∧ Below w.heap.size w w' := by
  have m1 := Lib.hid (rest_q x hx)
  have h0 : ¬ (t : Int) < 0 := by omega
  have h1 : ¬ 1048576 < (t : Int) := by omega
  go_enter Tryz.func32, Tryz.ntmps32
  go_wp2_with fail
  refine (m1.out _).mono ?_
  rintro e w1 ⟨rfl, hb1⟩
  go_wp2_with fail
  go_ret
  exact ⟨_, rfl, hb1.size, Blk.new _ _ _, below_al hb1 _⟩

theorem once_any (g : Nat) (x y : ByteArray) (d : Nat) (t : Int) (hd : d ≤ 1048576) (hm : Ret 40 #[.string x] (.string y)) (w : World) (hk : Blk w g 46 (workA x d t)) :
    Calls Tryz.prog 84 #[.pointer (some ⟨g, 0, none⟩)] w fun e w' => e = .returned (.tuple #[]) ∧ Blk w' g 46 (workA y ((d + 1 : Nat) : Int) t) ∧ w.grownBy w' (some g) := by
  have m1 := Lib.hid hm
  have c0 : w.cell? ⟨g, 0, none⟩ = some (.string x) := hk.cell 0
  clear hm
  go_enter Tryz.func84, Tryz.ntmps84
  go_wp2_with fail
  refine (m1.out _).mono ?_
  rintro e w1 ⟨rfl, hb1⟩
  have hk1 := hk.below hb1 hk.lt
  have d0 : w1.cell? ⟨g, 0, none⟩ = some (.string x) := hk1.cell 0
  have d1 : w1.cell? ⟨g, 1, none⟩ = some (.int .i64 (d : Int)) := hk1.cell 1
  have f0 := hk1.frozen 0
  have f1 := hk1.frozen 1
  go_wp2_with fail
  go_end0
  refine ⟨rfl, ?_, ?_⟩
  · have h2 := (hk1.set_ 0 (.string y)).set_ 1 (.int .i64 ((d : Int) + 1))
    exact h2
  · exact grown_set (grown_set (grown_of_below hb1 _) 0 _) 1 _

set_option maxRecDepth 100000 in
set_option maxHeartbeats 2000000 in
theorem Step_any (g : Nat) (R : Nat → ByteArray) (d t : Nat) (n : Int) (hdt : d ≤ t) (ht : t ≤ 1048576) (hn : -9223372036854775808 ≤ n ∧ n ≤ 9223372036854775807) (hR : ∀ i, d ≤ i → i < t → Ret 40 #[.string (R i)] (.string (R (i + 1)))) (w : World) (hk : Blk w g 46 (workA (R d) d t)) :
    Calls Tryz.prog 30 #[.pointer (some ⟨g, 0, none⟩), .int .i64 n] w fun e w' => e = .returned (.bool (decide (d + min n.toNat (t - d) = t))) ∧ Blk w' g 46 (workA (R (d + min n.toNat (t - d))) ((d + min n.toNat (t - d) : Nat) : Int) t) ∧ w.grownBy w' (some g) := by
  obtain ⟨D, hD⟩ : ∃ D, D = d + min n.toNat (t - d) := ⟨_, rfl⟩
  rw [← hD]
  have HD := Lib.hid hD
  have HR := Lib.hid hR
  clear hD hR
  go_enter Tryz.func30, Tryz.ntmps30
  go_wp2_with fail
  go_loopw [1] (fun s1 wr => ∃ (i : Nat) (m : Int), s1 = .int .i64 m ∧ Hid (d ≤ i ∧ i ≤ t ∧ i + min m.toNat (t - i) = D) ∧ i ≤ 1048576 ∧ (-9223372036854775808 ≤ m ∧ m ≤ 9223372036854775807) ∧ Blk wr g 46 (workA (R i) i t) ∧ w.grownBy wr (some g)) (fun s1 _ => (intOf s1).toNat)
  case atStart => exact ⟨d, n, rfl, Lib.hid ⟨Nat.le_refl _, hdt, HD.out.symm⟩, by omega, hn, hk, grown_refl _ _⟩
  case round =>
    obtain ⟨i, m, rfl, HI, hi, hm, hk, hg⟩ := hrel
    have c1 : wr.cell? ⟨g, 1, none⟩ = some (.int .i64 (i : Int)) := hk.cell 1
    have c2 : wr.cell? ⟨g, 2, none⟩ = some (.int .i64 (t : Int)) := hk.cell 2
    by_cases h0 : 0 < m
    · by_cases hlt : i < t
      · have hlt' : (i : Int) < (t : Int) := by omega
        have hh := HI.out
        have m1 := Lib.hid (fun W h => once_any g (R i) (R (i + 1)) i t hi (HR.out i hh.1 hlt) W h)
        clear hh
        go_upto_region 4 with fail
        go_quiet (fail)
        have hk' : Blk (wr.drewN nq) g 46 (workA (R i) i t) := hk
        go_wp2_with (go_at_call 84; (with_reducible refine (m1.out _ hk').mono ?_); rintro e w1 ⟨rfl, hk1, hg1⟩)
        go_roundw
        case rel =>
          refine ⟨i + 1, m - 1, rfl, Lib.hid ?_, by omega, by omega, hk1, ?_⟩
          · have := HI.out; omega
          · exact grown_trans hg (grown_trans (grown_of_below (below_drewN (Below.refl _ _) nq) _) hg1)
        case measure => simp [intOf]; omega
      · obtain rfl : i = t := by have := HI.out; omega
        have hlt' : ¬ (i : Int) < (i : Int) := by omega
        have hDt : D = i := by have := HI.out; omega
        have hee : ((i : Int) == (i : Int)) = true := by simp
        go_upto_region 4 with fail
        go_quiet (fail)
        go_upto_region 7 with fail
        have c1' : (wr.drewN nq).cell? ⟨g, 1, none⟩ = some (.int .i64 (i : Int)) := c1
        have c2' : (wr.drewN nq).cell? ⟨g, 2, none⟩ = some (.int .i64 (i : Int)) := c2
        have hk' : Blk (wr.drewN nq) g 46 (workA (R i) i i) := hk
        have hg' := grown_trans hg (grown_of_below (below_drewN (Below.refl wr.heap.size wr) nq) (some g))
        generalize wr.drewN nq = wq at c1' c2' hk' hg' ⊢
        go_quiet (fail)
        go_wp2_with fail
        go_ret
        exact ⟨rfl, hk', grown_trans hg' (grown_of_below (below_drewN (Below.refl _ _) _) _)⟩
    · have hDt : D = i := by have := HI.out; omega
      have h0' : decide (0 < m) = false := by simp [h0]
      go_upto_region 4 with fail
      go_quiet (fail)
      go_upto_region 7 with fail
      have c1' : (wr.drewN nq).cell? ⟨g, 1, none⟩ = some (.int .i64 (i : Int)) := c1
      have c2' : (wr.drewN nq).cell? ⟨g, 2, none⟩ = some (.int .i64 (t : Int)) := c2
      have hk' : Blk (wr.drewN nq) g 46 (workA (R i) i t) := hk
      have hg' := grown_trans hg (grown_of_below (below_drewN (Below.refl wr.heap.size wr) nq) (some g))
      generalize wr.drewN nq = wq at c1' c2' hk' hg' ⊢
      go_quiet (fail)
      go_wp2_with fail
      go_ret
      refine ⟨?_, hk', grown_trans hg' (grown_of_below (below_drewN (Below.refl _ _) _) _)⟩
      refine congrArg (fun b => Ending.returned (.bool b)) ?_
      show ((i : Int) == (t : Int)) = _
      rw [Bool.eq_iff_iff]
      simp
      omega

theorem Step_nil (n : Int) : Ret 30 #[.pointer none, .int .i64 n] (.bool false) := by
  intro w
  go_enter Tryz.func30, Tryz.ntmps30
  go_wp2_with fail
  go_ret
  exact ⟨rfl, Below.refl _ _⟩
theorem End_nil : Ret 29 #[.pointer none] (.tuple #[.string ⟨#[]⟩, .bool false]) := by
  intro w
  go_enter Tryz.func29, Tryz.ntmps29
  go_upto_region 1 with fail
  go_quiet (fail)
  go_wp2_with fail
  go_ret2
  exact ⟨rfl, below_drewN (Below.refl _ _) _⟩
theorem End_yes (g : Nat) (x : ByteArray) (d : Int) (w : World) (hk : Blk w g 46 (workA x d d)) :
    Calls Tryz.prog 29 #[.pointer (some ⟨g, 0, none⟩)] w fun e w' => e = .returned (.tuple #[.string x, .bool true]) ∧ Below w.heap.size w w' := by
  have c0 : w.cell? ⟨g, 0, none⟩ = some (.string x) := hk.cell 0
  have c1 : w.cell? ⟨g, 1, none⟩ = some (.int .i64 d) := hk.cell 1
  have c2 : w.cell? ⟨g, 2, none⟩ = some (.int .i64 d) := hk.cell 2
  have he : (d != d) = false := by simp
  go_enter Tryz.func29, Tryz.ntmps29
  go_upto_region 1 with fail
  go_quiet (fail)
  go_wp2_with fail
  go_ret2
  exact ⟨rfl, below_drewN (Below.refl _ _) _⟩

set_option maxHeartbeats 1000000 in
theorem Run_yes (x : ByteArray) (t : Nat) (hx : x.size ≤ 1000) (ht : t ≤ 1048576) : Ret 36 #[.string x, .int .i64 (t : Int)] (.tuple #[.string (natS (ranN (sval x) t)), .bool true]) := by
  intro w
  obtain ⟨R, hR⟩ : ∃ R : Nat → ByteArray, ∀ i, R i = natS (ranN (sval x) i) := ⟨_, fun _ => rfl⟩
  have m1 := Lib.hid (fun W => New_yes x t hx ht W)
  have m2 : Hid (∀ (g : Nat) (W : World), Blk W g 46 (workA (R 0) 0 t) → Calls Tryz.prog 30 #[.pointer (some ⟨g, 0, none⟩), .int .i64 (t : Int)] W fun e w' => e = .returned (.bool true) ∧ Blk w' g 46 (workA (R t) t t) ∧ W.grownBy w' (some g)) := Lib.hid (fun g W h => by
    have := Step_any g R 0 t t (Nat.zero_le _) ht (by omega) (fun i _ hi => by rw [hR, hR]; exact (Square_q _ (Nat.le_trans (ran_size _ _) (by omega))).of (by rw [ran_step])) W h
    rw [show 0 + min (t : Int).toNat (t - 0) = t by omega, decide_eq_true rfl] at this
    exact this)
  rw [← hR]
  have hR0 : R 0 = natS (sval x % modN) := hR 0
  rw [← hR0] at m1
  clear hR hR0
  go_enter Tryz.func36, Tryz.ntmps36
  go_wp2_with fail
  refine (m1.out _).mono ?_
  rintro e w1 ⟨g, rfl, hg, hk, hb1⟩
  go_wp2_with fail
  refine (m2.out g _ hk).mono ?_
  rintro e w2 ⟨rfl, hk2, hg2⟩
  go_wp2_with fail
  refine (End_yes g _ _ _ hk2).mono ?_
  rintro e w3 ⟨rfl, hb3⟩
  go_wp2_with fail
  go_ret2
  refine ⟨rfl, below_then (hb1.grown hg2 hb1.size (fun k e => by cases e; exact hg)) hb3⟩
theorem Run_no (x : ByteArray) (t : Int) (h : t < 0 ∨ 1048576 < t) : Ret 36 #[.string x, .int .i64 t] (.tuple #[.string ⟨#[]⟩, .bool false]) := by
  intro w
  have m1 := Lib.hid (New_no x t h)
  go_enter Tryz.func36, Tryz.ntmps36
  go_wp2_with fail
  refine (m1.out _).mono ?_
  rintro e w1 ⟨rfl, hb1⟩
  go_wp2_with fail
  go_ret2
  exact ⟨rfl, hb1⟩
theorem rRun_yes (x : ByteArray) (t : Nat) (hx : x.size ≤ 1000) (ht : t ≤ 1048576) : Ret 37 #[.string x, .int .i64 (t : Int)] (.tuple #[.string (natS (ranN (sval x) t)), .bool true]) := by
  intro w
  have m1 := Lib.hid (rRan_q x t hx (by omega))
  have h0 : ¬ (t : Int) < 0 := by omega
  have h1 : ¬ 1048576 < (t : Int) := by omega
  generalize natS (ranN (sval x) t) = y at m1 ⊢
  go_enter Tryz.func37, Tryz.ntmps37
  go_wp2_with fail
  refine (m1.out _).mono ?_
  rintro e w1 ⟨rfl, hb1⟩
  go_wp2_with fail
  go_ret2
  exact ⟨rfl, hb1⟩

end Go.Proofs.YtebgmlbbilcbbaaGreatDoor
