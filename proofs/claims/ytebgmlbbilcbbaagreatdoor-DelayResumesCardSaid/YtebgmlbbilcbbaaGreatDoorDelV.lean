/- Works of the reference, and steps that do nothing, for the law DelayResumes. -/
import Derived.Test.YtebgmlbbilcbbaaGreatDoorDelU
import Derived.Test.YtebgmlbbilcbbaaGreatDoorDelP
namespace Go.Proofs.YtebgmlbbilcbbaaGreatDoor
open Go.RowKit

set_option maxHeartbeats 2000000 in
theorem rSave_yes (g : Nat) (x : ByteArray) (d t : Nat) (hx : x.size ≤ 400) (hd : d ≤ 1048576) (ht : t ≤ 1048576) (w : World) (hk : Blk w g 125 (rworkA x d t)) :
    Calls Tryz.prog 46 #[.pointer (some ⟨g, 0, none⟩)] w fun e w' => e = .returned (.string (saveS d t (sval x))) ∧ Below w.heap.size w w' := by
  have s1 := decS_int (t := d) (by omega)
  have s2 := decS_int (t := t) (by omega)
  have s3 := decS_len hx
  have m1 := Lib.hid (decimal_q d (by omega))
  have m2 := Lib.hid (decimal_q t (by omega))
  have m3 : Hid (Ret 41 #[.string x] (.string (decS (sval x)))) := Lib.hid (fun W => rText x W (by omega))
  unfold saveS
  have kd : Blk w.drew g 125 (rworkA x d t) := hk
  have hBd : Below w.heap.size w w.drew := (Below.refl _ _).drew
  have c0 : w.cell? ⟨g, 0, none⟩ = some (.string x) := hk.cell 0
  have c1 : w.cell? ⟨g, 1, none⟩ = some (.int .i64 (d : Int)) := hk.cell 1
  have c2 : w.cell? ⟨g, 2, none⟩ = some (.int .i64 (t : Int)) := hk.cell 2
  clear hk
  generalize decS d = d1 at m1 s1 ⊢
  generalize decS t = d2 at m2 s2 ⊢
  generalize decS (sval x) = d3 at m3 s3 ⊢
  have z1 : ¬ 9223372036854775807 < 5 + d1.size := by omega
  have z2 : ¬ 9223372036854775807 < 5 + d1.size + 1 := by omega
  have z3 : ¬ 9223372036854775807 < 5 + d1.size + 1 + d2.size := by omega
  have z4 : ¬ 9223372036854775807 < 5 + d1.size + 1 + d2.size + 1 := by omega
  have z5 : ¬ 9223372036854775807 < 5 + d1.size + 1 + d2.size + 1 + d3.size := by omega
  go_enter Tryz.func46, Tryz.ntmps46
  go_upto_region 1 with fail
  go_region_held3 (fun Z : World => Z.cell? ⟨g, 0, none⟩ = some (.string x) ∧ Z.cell? ⟨g, 1, none⟩ = some (.int .i64 (d : Int)) ∧ Z.cell? ⟨g, 2, none⟩ = some (.int .i64 (t : Int)))
    (first
      | exact ⟨c0, c1, c2⟩
      | exact ⟨(((kd.below hba kd.lt).below hbb (kd.below hba kd.lt).lt).below hbc ((kd.below hba kd.lt).below hbb (kd.below hba kd.lt).lt).lt).cell 0, (((kd.below hba kd.lt).below hbb (kd.below hba kd.lt).lt).below hbc ((kd.below hba kd.lt).below hbb (kd.below hba kd.lt).lt).lt).cell 1, (((kd.below hba kd.lt).below hbb (kd.below hba kd.lt).lt).below hbc ((kd.below hba kd.lt).below hbb (kd.below hba kd.lt).lt).lt).cell 2⟩
      | exact ⟨((kd.below hba kd.lt).below hbb (kd.below hba kd.lt).lt).cell 0, ((kd.below hba kd.lt).below hbb (kd.below hba kd.lt).lt).cell 1, ((kd.below hba kd.lt).below hbb (kd.below hba kd.lt).lt).cell 2⟩
      | exact ⟨(kd.below hba kd.lt).cell 0, (kd.below hba kd.lt).cell 1, (kd.below hba kd.lt).cell 2⟩)
    (first
      | (go_at_call 102; (with_reducible refine (m1.out _).mono ?_); rintro e wa ⟨rfl, hba⟩)
      | (go_at_call 102; (with_reducible refine (m2.out _).mono ?_); rintro e wb ⟨rfl, hbb⟩)
      | (go_at_call 41; (with_reducible refine (m3.out _).mono ?_); rintro e wc ⟨rfl, hbc⟩))
  have hB := below_then (below_then (below_then hBd hba) hbb) hbc
  go_wp2_with fail
  go_ret
  exact ⟨rfl, hB⟩

def sqFrom (x : ByteArray) : Nat → ByteArray
  | 0 => x
  | k + 1 => natS (sval (sqFrom x k) * sval (sqFrom x k) % modN)
theorem sqFrom_size {x : ByteArray} (h : x.size ≤ 16) : ∀ k, (sqFrom x k).size ≤ 400
  | 0 => Nat.le_trans h (by omega)
  | _ + 1 => Nat.le_trans (natS_mod _) (by omega)
/-- Step that has nothing to do. -/
theorem Step_zero (g : Nat) (x : ByteArray) (d t : Nat) (hdt : d ≤ t) (ht : t ≤ 1048576) (hx : x.size ≤ 16) (W : World) (hk : Blk W g 46 (workA x d t)) : Calls Tryz.prog 30 #[.pointer (some ⟨g, 0, none⟩), .int .i64 0] W fun e w' => e = .returned (.bool (decide (d = t))) ∧ Blk w' g 46 (workA x d t) ∧ W.grownBy w' (some g) := by
  obtain ⟨R, h0, hR⟩ : ∃ R : Nat → ByteArray, R d = x ∧ ∀ i, d ≤ i → Ret 40 #[.string (R i)] (.string (R (i + 1))) := by
    refine ⟨fun i => sqFrom x (i - d), congrArg (sqFrom x) (Nat.sub_self d), fun i hi => ?_⟩
    have e : sqFrom x (i + 1 - d) = natS (sval (sqFrom x (i - d)) * sval (sqFrom x (i - d)) % modN) := by rw [show i + 1 - d = (i - d) + 1 by omega]; rfl
    show Ret 40 #[.string (sqFrom x (i - d))] (.string (sqFrom x (i + 1 - d)))
    rw [e]
    exact Square_q _ (sqFrom_size hx _)
  have := Step_any g R d t 0 hdt ht (by omega) (fun i h _ => hR i h) W (by rw [h0]; exact hk)
  rw [show d + min (0 : Int).toNat (t - d) = d by simp, h0] at this
  exact this

set_option maxHeartbeats 1000000 in
/-- The same of the reference. -/
theorem rStep_zero (g : Nat) (x : ByteArray) (d t : Nat) (W : World) (hk : Blk W g 125 (rworkA x d t)) : Calls Tryz.prog 47 #[.pointer (some ⟨g, 0, none⟩), .int .i64 0] W fun e w' => e = .returned (.bool (decide (d = t))) ∧ Below W.heap.size W w' := by
  have hlt := hk.lt
  have hee : ((d : Int) == (t : Int)) = decide (d = t) := by
    rw [Bool.eq_iff_iff]
    simp
    omega
  go_enter Tryz.func47, Tryz.ntmps47
  go_wp2_with fail
  go_loopw [5] (fun s5 wr => s5 = .int .i64 0 ∧ Below W.heap.size W wr) (fun _ _ => 0)
  case atStart => exact ⟨rfl, Below.refl _ _⟩
  case round =>
    obtain ⟨rfl, hB⟩ := hrel
    have k1 := hk.below hB hlt
    have c1 : wr.cell? ⟨g, 1, none⟩ = some (.int .i64 (d : Int)) := k1.cell 1
    have c2 : wr.cell? ⟨g, 2, none⟩ = some (.int .i64 (t : Int)) := k1.cell 2
    clear k1
    go_upto_region 2 with fail
    go_quiet (fail)
    go_upto_region 6 with fail
    have c1' : (wr.drewN nq).cell? ⟨g, 1, none⟩ = some (.int .i64 (d : Int)) := c1
    have c2' : (wr.drewN nq).cell? ⟨g, 2, none⟩ = some (.int .i64 (t : Int)) := c2
    have hB' := below_drewN hB nq
    generalize wr.drewN nq = wq at c1' c2' hB' ⊢
    go_quiet (fail)
    go_wp2_with fail
    go_ret
    exact ⟨rfl, below_drewN hB' _⟩

end Go.Proofs.YtebgmlbbilcbbaaGreatDoor
