/- The arguments of chapter 02's laws, opened. -/
import Derived.Test.YtikdkhmeaoafmaaGreatDoorCardD
namespace Go.Proofs.YtikdkhmeaoafmaaGreatDoor
open Go.ChangeShapes Go.WideShapes Go.ChangeAt Go.RowKit
section
variable {H : Type} {enc : TypeId × Value → H}
theorem list_three {l : List Int} (h : l.length = 3) : ∃ x y z, l = [x, y, z] := by
  match l, h with
  | [x, y, z], _ => exact ⟨x, y, z, rfl⟩
theorem cellsInt : Tryz.prog.cellsOf 3 = 1 := by kernel_rfl
theorem cellsI3 : Tryz.prog.cellsOf 22 = 3 := by kernel_rfl
set_option maxRecDepth 100000 in
theorem i3_of {W : World} {base : Nat} {v : Value} {d : DataW H} {p : List MemPlace} (hval : Value.okWide Tryz.prog W .any base 22 v) (h : DataW.Trod enc Tryz.prog W 0 (fun _ => true) true 22 v d p) :
    ∃ x y z : Int, v = .agg #[.int .i64 x, .int .i64 y, .int .i64 z] ∧ (-9223372036854775808 ≤ x ∧ x ≤ 9223372036854775807) ∧ (-9223372036854775808 ≤ y ∧ y ≤ 9223372036854775807) ∧ (-9223372036854775808 ≤ z ∧ z ≤ 9223372036854775807) := by
  obtain ⟨l, rfl, hl, hw⟩ := arr_of Tryz.underlying22 Tryz.underlying3 cellsInt cellsI3 hval h
  obtain ⟨x, y, z, rfl⟩ := list_three hl
  exact ⟨x, y, z, rfl, bounds_i64 (hw x (by simp)), bounds_i64 (hw y (by simp)), bounds_i64 (hw z (by simp))⟩
end
end Go.Proofs.YtikdkhmeaoafmaaGreatDoor
