/- Three parameters; equality of ratios in words. -/
import Derived.Test.YtikdkhmeaoafmaaGreatDoorRatLawA
import Derived.Test.YtikdkhmeaoafmaaGreatDoorRatN
namespace Go.Proofs.YtikdkhmeaoafmaaGreatDoor
open Go.RowKit

theorem sgn_bd (x : Rat) : sgnQ x = -1 ∨ sgnQ x = 0 ∨ sgnQ x = 1 := by
  unfold sgnQ
  rcases Int.lt_trichotomy x.num 0 with h | h | h
  · exact .inl (Int.sign_eq_neg_one_of_neg h)
  · rw [h]; exact .inr (.inl rfl)
  · exact .inr (.inr (Int.sign_eq_one_of_pos h))
/-- The blocks of three parameters. -/
theorem new_qqq (w : World) (x0 x1 x2 y0 y1 y2 z0 z1 z2 : Int) : ∃ W0 : World, ((w.alloc (.cells #[.int .i64 x0, .int .i64 x1, .int .i64 x2] 22)).alloc (.cells #[.int .i64 y0, .int .i64 y1, .int .i64 y2] 22)).alloc (.cells #[.int .i64 z0, .int .i64 z1, .int .i64 z2] 22) = W0 ∧
    Blk W0 w.heap.size 22 #[.int .i64 x0, .int .i64 x1, .int .i64 x2] ∧ Blk W0 (w.heap.size + 1) 22 #[.int .i64 y0, .int .i64 y1, .int .i64 y2] ∧ Blk W0 (w.heap.size + 1 + 1) 22 #[.int .i64 z0, .int .i64 z1, .int .i64 z2] ∧ Below w.heap.size w W0 :=
  ⟨_, rfl, ((Blk.new _ _ _).alloc _).alloc _, (Blk.new2 _ _ _ _).alloc _, Blk.new3 _ _ _ _ _, below_al (below_al (below_al (Below.refl _ _) _) _) _⟩

theorem equal_rat (g : Bool) (a b : ByteArray) (h : Bool) (c d : ByteArray) (w : World) : (Op.equalIn 10000 27 (.agg #[.bool g, .string a, .string b]) (.agg #[.bool h, .string c, .string d])).run Tryz.prog w = .ok (decide (g = h ∧ a = c ∧ b = d)) w := by
  have e1 : a = c ↔ a.toList = c.toList := ⟨fun e => by rw [e], fun e => by
    rw [ByteArray.toList_eq, ByteArray.toList_eq] at e
    exact ByteArray.ext (Array.toList_inj.1 e)⟩
  have e2 : b = d ↔ b.toList = d.toList := ⟨fun e => by rw [e], fun e => by
    rw [ByteArray.toList_eq, ByteArray.toList_eq] at e
    exact ByteArray.ext (Array.toList_inj.1 e)⟩
  have e3 : decide (g = h ∧ a = c ∧ b = d) = decide (g = h ∧ a.toList = c.toList ∧ b.toList = d.toList) := decide_eq_decide.2 (by rw [e1, e2])
  rw [e3]
  by_cases x1 : g = h <;> by_cases x2 : a.toList = c.toList <;> by_cases x3 : b.toList = d.toList <;> simp [go_sem, x1, x2, x3]


end Go.Proofs.YtikdkhmeaoafmaaGreatDoor
