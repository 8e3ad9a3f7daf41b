/- powerOdd: powers modulo an odd number. -/
import Derived.Test.YtkpinmejfdnhbaaGreatDoorNatFour
import Derived.Deep.RegionWith
import Derived.Deep.RegionHeld3
import Derived.Deep.CutRange
namespace Go.Proofs.YtkpinmejfdnhbaaGreatDoor
open Go.RowKit Go.Shelf
attribute [local go_sem] Oper.semAt_some
theorem blk_kept {W W' : World} {row : Option Nat} {g : Nat} {t : TypeId} {cs : Array Value} (h : Blk W g t cs) (hg : W.grownBy W' row) (hrow : ∀ r, row = some r → ∃ o : Obj, W.heap[r]? = some o ∧ o.isCells = false) : Blk W' g t cs :=
 (grownBy_keeps_cells hg hrow h rfl).trans h
end Go.Proofs.YtkpinmejfdnhbaaGreatDoor
