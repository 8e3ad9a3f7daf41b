/- The law DelayNil. -/
import Derived.Test.YtebgmlbbilcbbaaGreatDoorDelK
namespace Go.Proofs.YtebgmlbbilcbbaaGreatDoor
open Go.RowKit

theorem zStep (g : Nat) (n : Int) (hn : -9223372036854775808 ≤ n ∧ n ≤ 9223372036854775807) (W : World) (hk : Blk W g 46 (workA ⟨#[]⟩ 0 0)) : Calls Tryz.prog 30 #[.pointer (some ⟨g, 0, none⟩), .int .i64 n] W fun e w' => e = .returned (.bool true) ∧ Blk w' g 46 (workA ⟨#[]⟩ 0 0) ∧ W.grownBy w' (some g) := by
  have := Step_any g (fun _ => ⟨#[]⟩) 0 0 n (by omega) (by omega) hn (fun i _ hi => by omega) W hk
  rw [show 0 + min n.toNat (0 - 0) = 0 by omega, decide_eq_true rfl] at this
  exact this
theorem zSave (g : Nat) (W : World) (hT : Tabs W) (hk : Blk W g 46 (workA ⟨#[]⟩ 0 0)) : Calls Tryz.prog 31 #[.pointer (some ⟨g, 0, none⟩)] W fun e w' => e = .returned (.string ⟨#[119, 111, 114, 107, 32, 48, 32, 48, 32, 48]⟩) ∧ Below W.heap.size W w' := by
  have := Save_yes g ⟨#[]⟩ 0 0 (by decide) (by omega) (by omega) W hT hk
  have e : saveS 0 0 (sval ⟨#[]⟩) = ⟨#[119, 111, 114, 107, 32, 48, 32, 48, 32, 48]⟩ := by
    have h3 : sval ⟨#[]⟩ = 0 := by decide
    unfold saveS
    rw [h3, dec_one (by omega)]
    rfl
  rw [e] at this
  exact this
/-- Step that does nothing. -/
theorem nStep (g : Nat) (x : ByteArray) (t : Nat) (ht : t ≤ 1048576) (n : Int) (hn : n = 0 ∨ n = -1) (hx : x.size ≤ 16) (W : World) (hk : Blk W g 46 (workA x 0 t)) : Calls Tryz.prog 30 #[.pointer (some ⟨g, 0, none⟩), .int .i64 n] W fun e w' => e = .returned (.bool (decide (t = 0))) ∧ Blk w' g 46 (workA x 0 t) ∧ W.grownBy w' (some g) := by
  obtain ⟨R, h0, hR⟩ : ∃ R : Nat → ByteArray, R 0 = x ∧ ∀ i, Ret 40 #[.string (R i)] (.string (R (i + 1))) := by
    refine ⟨fun i => Nat.rec x (fun _ y => natS (sval y * sval y % modN)) i, rfl, fun i => ?_⟩
    refine Square_q _ ?_
    cases i with
    | zero => exact Nat.le_trans hx (by omega)
    | succ i => exact Nat.le_trans (natS_mod _) (by omega)
  have := Step_any g R 0 t n (by omega) ht (by omega) (fun i _ _ => hR i) W (by rw [h0]; exact hk)
  rw [show 0 + min n.toNat (t - 0) = 0 by omega, h0, show decide (0 = t) = decide (t = 0) by rw [decide_eq_decide]; omega] at this
  exact this

end Go.Proofs.YtebgmlbbilcbbaaGreatDoor
