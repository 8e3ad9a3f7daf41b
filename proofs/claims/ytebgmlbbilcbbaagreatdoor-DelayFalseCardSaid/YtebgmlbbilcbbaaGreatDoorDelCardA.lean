/- What the listed variables give, and a world for the witness: chapters 10 and 11. -/
import Derived.Test.YtebgmlbbilcbbaaGreatDoorCards
import Derived.Test.YtebgmlbbilcbbaaGreatDoorTie
import Derived.Test.YtebgmlbbilcbbaaGreatDoorDelA
import Derived.ProofKit
import Derived.OpenShut
import Derived.LaidMore
import Derived.Deep.DeepHandedRow
import Derived.Deep.DeepWitnessRowRef
import Derived.Lib.LaidTab
namespace Go.Proofs.YtebgmlbbilcbbaaGreatDoor
open Go.ChangeShapes Go.WideShapes Go.ChangeAt Go.RowKit

theorem own : ownKnob Tryz.prog.godebug = none := by kernel_rfl

/-- The seven variables that each row lists. -/
def laid7 : List (String × DataW Unit) := Rows.delayNilRow.laid

/-- The door's own heap, with the pinned table in its place. -/
noncomputable def laidWorld (os : Os) : World :=
  { World.doorLaid Tryz.prog 200 os with heap := (World.doorLaid Tryz.prog 200 os).heap.modify 6 fun
      | .cells _ t frozen => .cells (Pinned.utf8FirstZ.map fun z : Nat => Value.int .u8 (z : Int)).toArray t frozen
      | o => o }

set_option maxRecDepth 100000 in
theorem laid_met (os : Os) (args : Array Value) : laidMet Tryz.prog laid7 ((laidWorld os).forCall (fun _ _ => 0) ⟨#[], args, []⟩).memory :=
  laidMet_of_run' 8 (by kernel_rfl) (by kernel_rfl)

theorem gTab : Tryz.prog.globalNamed "internal/strconv.uint64pow10" = some 4 := by kernel_rfl
theorem gK : Tryz.prog.globalNamed "sortes/digest.constants" = some 1 := by kernel_rfl
theorem gF : Tryz.prog.globalNamed "sortes/digest.first" = some 0 := by kernel_rfl
theorem gTabType : (Tryz.prog.globals[4]?).map (·.type) = some 238 := by kernel_rfl
theorem gKType : (Tryz.prog.globals[1]?).map (·.type) = some 170 := by kernel_rfl
theorem gFType : (Tryz.prog.globals[0]?).map (·.type) = some 141 := by kernel_rfl
theorem cellsTab : Tryz.prog.cellsOf 238 = 20 := by kernel_rfl
theorem cellsK : Tryz.prog.cellsOf 170 = 64 := by kernel_rfl
theorem cellsF : Tryz.prog.cellsOf 141 = 8 := by kernel_rfl
theorem cellsU64 : Tryz.prog.cellsOf 160 = 1 := by kernel_rfl
theorem cellsU32 : Tryz.prog.cellsOf 140 = 1 := by kernel_rfl
theorem tab_is : (Rows.laid_internal_strconv_uint64pow10 : DataW Unit) = Lib.tabData .u64 Lib.pow10Tab := by rfl
theorem k_is : (Rows.laid_sortes_digest_constants : DataW Unit) = Lib.tabData .u32 (kS.map fun n : Nat => (n : Int)) := by rfl
theorem f_is : (Rows.laid_sortes_digest_first : DataW Unit) = Lib.tabData .u32 (ivS.map fun n : Nat => (n : Int)) := by rfl

/-- What the list gives: the tables. -/
theorem tabs_of {W : World} (h : laidMetH Tryz.prog laid7 W) : Tabs W := by
  have h' : laidMet Tryz.prog laid7 W := h
  obtain ⟨ps, ⟨_, _, _, _, _, _, _, _, _, _, ⟨_, _, _, _, _, _, _, _, _, _, ⟨g2, t2, cs2, f2, p2, q2, hg2, ht2, hv2, hd2, ⟨_, _, _, _, _, _, _, _, _, _, ⟨g4, t4, cs4, f4, p4, q4, hg4, ht4, hv4, hd4, ⟨g5, t5, cs5, f5, p5, q5, hg5, ht5, hv5, hd5, _, _⟩, _⟩, _⟩, _⟩, _⟩, _⟩, _, _⟩ := h'
  refine ⟨?_, ?_, ?_⟩
  · obtain rfl := Option.some.inj (gK.symm.trans hg5)
    obtain rfl := Option.some.inj (gKType.symm.trans ht5)
    rw [k_is] at hd5
    unfold KTab Lib.TabIs
    rw [hv5, ← Lib.cells_of_tab Tryz.underlying170 Tryz.underlying140 cellsU32 cellsK hd5]
  · obtain rfl := Option.some.inj (gF.symm.trans hg4)
    obtain rfl := Option.some.inj (gFType.symm.trans ht4)
    rw [f_is] at hd4
    unfold FTab Lib.TabIs
    rw [hv4, ← Lib.cells_of_tab Tryz.underlying141 Tryz.underlying140 cellsU32 cellsF hd4]
  · obtain rfl := Option.some.inj (gTab.symm.trans hg2)
    obtain rfl := Option.some.inj (gTabType.symm.trans ht2)
    rw [tab_is] at hd2
    unfold Pow10 Lib.TabIs
    rw [hv2, ← Lib.cells_of_tab Tryz.underlying238 Tryz.underlying160 cellsU64 cellsTab hd2]

end Go.Proofs.YtebgmlbbilcbbaaGreatDoor
