/- What holds of the whole cut, reckoned once for all cards. -/
import Derived.Test.YtkpinmejfdnhbaaGreatDoorLiCards
namespace Go.Proofs.YtkpinmejfdnhbaaGreatDoor
open Go.ChangeShapes Go.WideShapes Go.ChangeAt Go.RowKit
theorem fRowed : mapsRowed Tryz.prog = true := by kernel_rfl
theorem fKeys : (Rows.lightNilRow.plainKeys == Tryz.prog.plainKeys) = true := by kernel_rfl
theorem fHeard : Tryz.prog.stopsHeard = true := by kernel_rfl
theorem fEnter : Tryz.prog.mayEnter = true := by kernel_rfl
theorem fLifted : (Rows.lightNilRow.lifted == Tryz.prog.liftsFinal) = true := by kernel_rfl
theorem fMake : (Tryz.prog.make == some Rows.lightNilRow.make) = true := by kernel_rfl
theorem fStops : (Tryz.prog.stops == []) = true := by kernel_rfl
theorem fKnobs : (Tryz.prog.stopKnobs == []) = true := by kernel_rfl
end Go.Proofs.YtkpinmejfdnhbaaGreatDoor
