/- What the longer list of variables gives (the two errors of strconv besides the tables), and that a variable of an integer's type holds an integer: for the laws that read texts. -/
import Derived.Test.YtebgmlbbilcbbaaGreatDoorDelCards
import Derived.Test.YtebgmlbbilcbbaaGreatDoorDelU
import Derived.Stop.LaidErr
import Derived.Shelf.Vars
namespace Go.Proofs.YtebgmlbbilcbbaaGreatDoor
open Go.ChangeShapes Go.WideShapes Go.ChangeAt Go.RowKit

/-- The nine variables that the row lists. -/
def laid9 : List (String × DataW Unit) := Rows.delayResumesRow.laid

theorem gES : Tryz.prog.globalNamed "strconv.ErrSyntax" = some 2 := by kernel_rfl
theorem gER : Tryz.prog.globalNamed "strconv.ErrRange" = some 3 := by kernel_rfl
theorem gESType : (Tryz.prog.globals[2]?).map (·.type) = some 137 := by kernel_rfl
theorem gERType : (Tryz.prog.globals[3]?).map (·.type) = some 137 := by kernel_rfl
theorem cellsES : Tryz.prog.cellsOf 253 = 1 := by kernel_rfl
theorem cellsStr : Tryz.prog.cellsOf 9 = 1 := by kernel_rfl
theorem starES : "*" ++ "errors.errorString" = "*errors.errorString" := by decide
theorem rowES (u : TypeId) (h : Tryz.prog.typeName? 3 u = some "*errors.errorString") : u = 251 :=
  typeName_ptr_named (nm := "errors.errorString") (by rw [starES]; kernel_rfl) (by kernel_rfl) (by decide) u (by rw [starES]; exact h)

/-- What the list gives: the tables. -/
theorem tabs9 {W : World} (h : laidMetH Tryz.prog laid9 W) : Tabs W := by
  have h0 : laidMet Tryz.prog laid9 W := h
  have h2 := h0.tail.tail
  obtain ⟨_, ⟨g2, t2, cs2, f2, p2, q2, hg2, ht2, hv2, hd2, _, _⟩, _, _⟩ := h2
  obtain ⟨_, ⟨g4, t4, cs4, f4, p4, q4, hg4, ht4, hv4, hd4, ⟨g5, t5, cs5, f5, p5, q5, hg5, ht5, hv5, hd5, _, _⟩, _⟩, _, _⟩ := h0.tail.tail.tail.tail.tail.tail
  refine ⟨?_, ?_, ?_⟩
  · obtain rfl := Option.some.inj (gK.symm.trans hg5)
    obtain rfl := Option.some.inj (gKType.symm.trans ht5)
    rw [k_is] at hd5
    unfold KTab Lib.TabIs
    rw [hv5, ← Lib.cells_of_tab Tryz.underlying170 Tryz.underlying140 cellsU32 cellsK hd5]
  · obtain rfl := Option.some.inj (gF.symm.trans hg4)
    obtain rfl := Option.some.inj (gFType.symm.trans ht4)
    rw [f_is] at hd4
    unfold FTab Lib.TabIs
    rw [hv4, ← Lib.cells_of_tab Tryz.underlying141 Tryz.underlying140 cellsU32 cellsF hd4]
  · obtain rfl := Option.some.inj (gTab.symm.trans hg2)
    obtain rfl := Option.some.inj (gTabType.symm.trans ht2)
    rw [tab_is] at hd2
    unfold Pow10 Lib.TabIs
    rw [hv2, ← Lib.cells_of_tab Tryz.underlying238 Tryz.underlying160 cellsU64 cellsTab hd2]
/-- The two errors. -/
theorem errs9 {W : World} (h : laidMetH Tryz.prog laid9 W) : ErrV W := by
  have h0 : laidMet Tryz.prog laid9 W := h
  have h4 := h0.tail.tail.tail.tail
  obtain ⟨a0, s0, hv0, -, -, -⟩ := laid_sentinel h4 gER gERType Tryz.underlying137 rowES Tryz.underlying251 Tryz.underlying253 rfl rfl Tryz.underlying9 cellsES cellsStr
  obtain ⟨a1, s1, hv1, -, -, -⟩ := laid_sentinel h4.tail gES gESType Tryz.underlying137 rowES Tryz.underlying251 Tryz.underlying253 rfl rfl Tryz.underlying9 cellsES cellsStr
  exact ⟨⟨_, by have h0 := World.var?_cell gES hv1 0; simpa using h0, .inr ⟨_, _, rfl⟩⟩, ⟨_, by have h0 := World.var?_cell gER hv0 0; simpa using h0, .inr ⟨_, _, rfl⟩⟩⟩
/-- The variable that Split reads holds an integer. -/
theorem maxL_of {W : World} (h : W.ShapedOpen Tryz.prog) : MaxL W :=
  cell_of_shapedOpen_int (zero := #[.int .i64 0]) h (of_decide_eq_true (by kernel_rfl)) (by kernel_rfl) rfl (by kernel_rfl) (by kernel_rfl) Tryz.underlying3

set_option maxRecDepth 100000 in
theorem laid_met9 (os : Os) (args : Array Value) : laidMet Tryz.prog laid9 ((laidWorld os).forCall (fun _ _ => 0) ⟨#[], args, []⟩).memory :=
  laidMet_of_run' 8 (by kernel_rfl) (by kernel_rfl)

end Go.Proofs.YtebgmlbbilcbbaaGreatDoor
