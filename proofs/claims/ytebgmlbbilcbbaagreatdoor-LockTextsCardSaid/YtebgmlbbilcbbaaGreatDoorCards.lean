/-
  DERIVED. GIVEN WITH THE SEED: THE CARDS: each row of YtebgmlbbilcbbaaGreatDoorRows.lean that lists a variable, with what it lists TIED to the program's text (the seventh form; the later family's looks); each row that meets fmt, with fmt's text TOLD by the authors' own Lean function (tested against real Go, not proved from fmt's source: count such statements apart). THE CARD IS WHAT COUNTS. Prove the row's statement (the work); the ties are given (YtebgmlbbilcbbaaGreatDoorTie.lean); close each card by the builder's one call (the guide's Derived/Test/ToyasCard.lean, 'card_holds'). Laid BY PROGRAM, IN A SANDBOX (cutbox-door.mjs). By AI agents, Wed Nov 11 2026. No macro, syntax, notation, axiom, sorry.
-/
import Derived.Test.YtebgmlbbilcbbaaGreatDoorRows
import GoSem.ClaimSeven
namespace Go.Proofs.YtebgmlbbilcbbaaGreatDoor
namespace Rows

/-- THE TIED CARD OF 'sorteslaw10.DelayConvicts'. -/
def delayConvictsCard : Claim7 := { stood := { row := delayConvictsRow, standIns := [], harness := (true, "1ab8e76a6046fa4c702f5b1fb76317d5e3d8153521582f36571cf7c4054d31f8"), looks := true }, kinds := [], alts := [], laidByText := true, laidKinds := [.data, .data, .data, .data, .data, .data, .pinned], laidTests := true, laidLooks := .later }
def DelayConvictsCardSaid : Prop := Claim7.holds Tryz.pinned (.plain (OpenSpec.ofChange delayConvictsSpec)) delayConvictsCard

/-- THE TIED CARD OF 'sorteslaw10.DelayFalse'. -/
def delayFalseCard : Claim7 := { stood := { row := delayFalseRow, standIns := [], harness := (true, "1ab8e76a6046fa4c702f5b1fb76317d5e3d8153521582f36571cf7c4054d31f8"), looks := true }, kinds := [], alts := [], laidByText := true, laidKinds := [.data, .data, .data, .data, .data, .data, .pinned], laidTests := true, laidLooks := .later }
def DelayFalseCardSaid : Prop := Claim7.holds Tryz.pinned (.plain (OpenSpec.ofChange delayFalseSpec)) delayFalseCard

/-- THE TIED CARD OF 'sorteslaw10.DelayNil'. -/
def delayNilCard : Claim7 := { stood := { row := delayNilRow, standIns := [], harness := (true, "1ab8e76a6046fa4c702f5b1fb76317d5e3d8153521582f36571cf7c4054d31f8"), looks := true }, kinds := [], alts := [], laidByText := true, laidKinds := [.data, .data, .data, .data, .data, .data, .pinned], laidTests := true, laidLooks := .later }
def DelayNilCardSaid : Prop := Claim7.holds Tryz.pinned (.plain (OpenSpec.ofChange delayNilSpec)) delayNilCard

/-- THE TIED CARD OF 'sorteslaw10.DelayChecks'. -/
def delayChecksCard : Claim7 := { stood := { row := delayChecksRow, standIns := [], harness := (true, "1ab8e76a6046fa4c702f5b1fb76317d5e3d8153521582f36571cf7c4054d31f8"), looks := true }, kinds := [], alts := [], laidByText := true, laidKinds := [.data, .data, .data, .data, .data, .data, .pinned], laidTests := true, laidLooks := .later }
def DelayChecksCardSaid : Prop := Claim7.holds Tryz.pinned (.plain (OpenSpec.ofChange delayChecksSpec)) delayChecksCard

/-- THE TIED CARD OF 'sorteslaw10.DelayRuns'. -/
def delayRunsCard : Claim7 := { stood := { row := delayRunsRow, standIns := [], harness := (true, "1ab8e76a6046fa4c702f5b1fb76317d5e3d8153521582f36571cf7c4054d31f8"), looks := true }, kinds := [], alts := [], laidByText := true, laidKinds := [.data, .data, .data, .data, .data, .data, .pinned], laidTests := true, laidLooks := .later }
def DelayRunsCardSaid : Prop := Claim7.holds Tryz.pinned (.plain (OpenSpec.ofChange delayRunsSpec)) delayRunsCard

/-- THE TIED CARD OF 'sorteslaw10.DelayResumes'. -/
def delayResumesCard : Claim7 := { stood := { row := delayResumesRow, standIns := [], harness := (true, "1ab8e76a6046fa4c702f5b1fb76317d5e3d8153521582f36571cf7c4054d31f8"), looks := true }, kinds := [], alts := [], laidByText := true, laidKinds := [.data, .data, .data, .data, .sentinel, .sentinel, .data, .data, .pinned], laidTests := true, laidLooks := .later }
def DelayResumesCardSaid : Prop := Claim7.holds Tryz.pinned (.plain (OpenSpec.ofChange delayResumesSpec)) delayResumesCard

/-- THE TIED CARD OF 'sorteslaw11.LockCommits'. -/
def lockCommitsCard : Claim7 := { stood := { row := lockCommitsRow, standIns := [], harness := (true, "1ab8e76a6046fa4c702f5b1fb76317d5e3d8153521582f36571cf7c4054d31f8"), looks := true }, kinds := [], alts := [], laidByText := true, laidKinds := [.data, .data, .data, .data, .data, .data, .pinned], laidTests := true, laidLooks := .later }
def LockCommitsCardSaid : Prop := Claim7.holds Tryz.pinned (.plain (OpenSpec.ofChange lockCommitsSpec)) lockCommitsCard

/-- THE TIED CARD OF 'sorteslaw11.LockRecovers'. -/
def lockRecoversCard : Claim7 := { stood := { row := lockRecoversRow, standIns := [], harness := (true, "1ab8e76a6046fa4c702f5b1fb76317d5e3d8153521582f36571cf7c4054d31f8"), looks := true }, kinds := [], alts := [], laidByText := true, laidKinds := [.data, .data, .data, .data, .data, .data, .pinned], laidTests := true, laidLooks := .later }
def LockRecoversCardSaid : Prop := Claim7.holds Tryz.pinned (.plain (OpenSpec.ofChange lockRecoversSpec)) lockRecoversCard

/-- THE TIED CARD OF 'sorteslaw11.LockChanged'. -/
def lockChangedCard : Claim7 := { stood := { row := lockChangedRow, standIns := [], harness := (true, "1ab8e76a6046fa4c702f5b1fb76317d5e3d8153521582f36571cf7c4054d31f8"), looks := true }, kinds := [], alts := [], laidByText := true, laidKinds := [.data, .data, .data, .data, .data, .data, .pinned], laidTests := true, laidLooks := .later }
def LockChangedCardSaid : Prop := Claim7.holds Tryz.pinned (.plain (OpenSpec.ofChange lockChangedSpec)) lockChangedCard

/-- THE TIED CARD OF 'sorteslaw11.LockOpens'. -/
def lockOpensCard : Claim7 := { stood := { row := lockOpensRow, standIns := [], harness := (true, "1ab8e76a6046fa4c702f5b1fb76317d5e3d8153521582f36571cf7c4054d31f8"), looks := true }, kinds := [], alts := [], laidByText := true, laidKinds := [.data, .data, .data, .data, .data, .data, .pinned], laidTests := true, laidLooks := .later }
def LockOpensCardSaid : Prop := Claim7.holds Tryz.pinned (.plain (OpenSpec.ofChange lockOpensSpec)) lockOpensCard

/-- THE TIED CARD OF 'sorteslaw11.LockHashes'. -/
def lockHashesCard : Claim7 := { stood := { row := lockHashesRow, standIns := [], harness := (true, "1ab8e76a6046fa4c702f5b1fb76317d5e3d8153521582f36571cf7c4054d31f8"), looks := true }, kinds := [], alts := [], laidByText := true, laidKinds := [.data, .data, .data, .data, .data, .data, .pinned], laidTests := true, laidLooks := .later }
def LockHashesCardSaid : Prop := Claim7.holds Tryz.pinned (.plain (OpenSpec.ofChange lockHashesSpec)) lockHashesCard

/-- THE TIED CARD OF 'sorteslaw11.LockOrder'. -/
def lockOrderCard : Claim7 := { stood := { row := lockOrderRow, standIns := [], harness := (true, "1ab8e76a6046fa4c702f5b1fb76317d5e3d8153521582f36571cf7c4054d31f8"), looks := true }, kinds := [], alts := [], laidByText := true, laidKinds := [.data, .data, .data, .data, .data, .data, .pinned], laidTests := true, laidLooks := .later }
def LockOrderCardSaid : Prop := Claim7.holds Tryz.pinned (.plain (OpenSpec.ofChange lockOrderSpec)) lockOrderCard

/-- THE TIED CARD OF 'sorteslaw11.LockInputs'. -/
def lockInputsCard : Claim7 := { stood := { row := lockInputsRow, standIns := [], harness := (true, "1ab8e76a6046fa4c702f5b1fb76317d5e3d8153521582f36571cf7c4054d31f8"), looks := true }, kinds := [], alts := [], laidByText := true, laidKinds := [.data, .data, .data, .data, .data, .data, .pinned], laidTests := true, laidLooks := .later }
def LockInputsCardSaid : Prop := Claim7.holds Tryz.pinned (.plain (OpenSpec.ofChange lockInputsSpec)) lockInputsCard

/-- THE TIED CARD OF 'sorteslaw11.LockTexts'. -/
def lockTextsCard : Claim7 := { stood := { row := lockTextsRow, standIns := [], harness := (true, "1ab8e76a6046fa4c702f5b1fb76317d5e3d8153521582f36571cf7c4054d31f8"), looks := true }, kinds := [], alts := [], laidByText := true, laidKinds := [.data, .data, .data, .data, .sentinel, .sentinel, .data, .data, .pinned], laidTests := true, laidLooks := .later }
def LockTextsCardSaid : Prop := Claim7.holds Tryz.pinned (.plain (OpenSpec.ofChange lockTextsSpec)) lockTextsCard

/-- THE SECOND FORM's CARD OF 'sorteslaw10.DelayConvicts'. -/
def delayConvictsUptoCard : Claim7 := { stood := { row := delayConvictsUptoRow, standIns := [], harness := (true, "1ab8e76a6046fa4c702f5b1fb76317d5e3d8153521582f36571cf7c4054d31f8"), looks := true }, kinds := [], alts := [], laidByText := true, laidKinds := [.data, .data, .data, .data, .data, .data, .pinned], laidTests := true, laidLooks := .later }
def DelayConvictsUptoCardSaid : Prop := Claim7.holds Tryz.pinned (.plain (OpenSpec.upto delayConvictsSpec)) delayConvictsUptoCard

/-- THE SECOND FORM's CARD OF 'sorteslaw10.DelayFalse'. -/
def delayFalseUptoCard : Claim7 := { stood := { row := delayFalseUptoRow, standIns := [], harness := (true, "1ab8e76a6046fa4c702f5b1fb76317d5e3d8153521582f36571cf7c4054d31f8"), looks := true }, kinds := [], alts := [], laidByText := true, laidKinds := [.data, .data, .data, .data, .data, .data, .pinned], laidTests := true, laidLooks := .later }
def DelayFalseUptoCardSaid : Prop := Claim7.holds Tryz.pinned (.plain (OpenSpec.upto delayFalseSpec)) delayFalseUptoCard

/-- THE SECOND FORM's CARD OF 'sorteslaw10.DelayNil'. -/
def delayNilUptoCard : Claim7 := { stood := { row := delayNilUptoRow, standIns := [], harness := (true, "1ab8e76a6046fa4c702f5b1fb76317d5e3d8153521582f36571cf7c4054d31f8"), looks := true }, kinds := [], alts := [], laidByText := true, laidKinds := [.data, .data, .data, .data, .data, .data, .pinned], laidTests := true, laidLooks := .later }
def DelayNilUptoCardSaid : Prop := Claim7.holds Tryz.pinned (.plain (OpenSpec.upto delayNilSpec)) delayNilUptoCard

/-- THE SECOND FORM's CARD OF 'sorteslaw10.DelayChecks'. -/
def delayChecksUptoCard : Claim7 := { stood := { row := delayChecksUptoRow, standIns := [], harness := (true, "1ab8e76a6046fa4c702f5b1fb76317d5e3d8153521582f36571cf7c4054d31f8"), looks := true }, kinds := [], alts := [], laidByText := true, laidKinds := [.data, .data, .data, .data, .data, .data, .pinned], laidTests := true, laidLooks := .later }
def DelayChecksUptoCardSaid : Prop := Claim7.holds Tryz.pinned (.plain (OpenSpec.upto delayChecksSpec)) delayChecksUptoCard

/-- THE SECOND FORM's CARD OF 'sorteslaw10.DelayRuns'. -/
def delayRunsUptoCard : Claim7 := { stood := { row := delayRunsUptoRow, standIns := [], harness := (true, "1ab8e76a6046fa4c702f5b1fb76317d5e3d8153521582f36571cf7c4054d31f8"), looks := true }, kinds := [], alts := [], laidByText := true, laidKinds := [.data, .data, .data, .data, .data, .data, .pinned], laidTests := true, laidLooks := .later }
def DelayRunsUptoCardSaid : Prop := Claim7.holds Tryz.pinned (.plain (OpenSpec.upto delayRunsSpec)) delayRunsUptoCard

/-- THE SECOND FORM's CARD OF 'sorteslaw10.DelayResumes'. -/
def delayResumesUptoCard : Claim7 := { stood := { row := delayResumesUptoRow, standIns := [], harness := (true, "1ab8e76a6046fa4c702f5b1fb76317d5e3d8153521582f36571cf7c4054d31f8"), looks := true }, kinds := [], alts := [], laidByText := true, laidKinds := [.data, .data, .data, .data, .sentinel, .sentinel, .data, .data, .pinned], laidTests := true, laidLooks := .later }
def DelayResumesUptoCardSaid : Prop := Claim7.holds Tryz.pinned (.plain (OpenSpec.upto delayResumesSpec)) delayResumesUptoCard

/-- THE SECOND FORM's CARD OF 'sorteslaw11.LockCommits'. -/
def lockCommitsUptoCard : Claim7 := { stood := { row := lockCommitsUptoRow, standIns := [], harness := (true, "1ab8e76a6046fa4c702f5b1fb76317d5e3d8153521582f36571cf7c4054d31f8"), looks := true }, kinds := [], alts := [], laidByText := true, laidKinds := [.data, .data, .data, .data, .data, .data, .pinned], laidTests := true, laidLooks := .later }
def LockCommitsUptoCardSaid : Prop := Claim7.holds Tryz.pinned (.plain (OpenSpec.upto lockCommitsSpec)) lockCommitsUptoCard

/-- THE SECOND FORM's CARD OF 'sorteslaw11.LockRecovers'. -/
def lockRecoversUptoCard : Claim7 := { stood := { row := lockRecoversUptoRow, standIns := [], harness := (true, "1ab8e76a6046fa4c702f5b1fb76317d5e3d8153521582f36571cf7c4054d31f8"), looks := true }, kinds := [], alts := [], laidByText := true, laidKinds := [.data, .data, .data, .data, .data, .data, .pinned], laidTests := true, laidLooks := .later }
def LockRecoversUptoCardSaid : Prop := Claim7.holds Tryz.pinned (.plain (OpenSpec.upto lockRecoversSpec)) lockRecoversUptoCard

/-- THE SECOND FORM's CARD OF 'sorteslaw11.LockChanged'. -/
def lockChangedUptoCard : Claim7 := { stood := { row := lockChangedUptoRow, standIns := [], harness := (true, "1ab8e76a6046fa4c702f5b1fb76317d5e3d8153521582f36571cf7c4054d31f8"), looks := true }, kinds := [], alts := [], laidByText := true, laidKinds := [.data, .data, .data, .data, .data, .data, .pinned], laidTests := true, laidLooks := .later }
def LockChangedUptoCardSaid : Prop := Claim7.holds Tryz.pinned (.plain (OpenSpec.upto lockChangedSpec)) lockChangedUptoCard

/-- THE SECOND FORM's CARD OF 'sorteslaw11.LockOpens'. -/
def lockOpensUptoCard : Claim7 := { stood := { row := lockOpensUptoRow, standIns := [], harness := (true, "1ab8e76a6046fa4c702f5b1fb76317d5e3d8153521582f36571cf7c4054d31f8"), looks := true }, kinds := [], alts := [], laidByText := true, laidKinds := [.data, .data, .data, .data, .data, .data, .pinned], laidTests := true, laidLooks := .later }
def LockOpensUptoCardSaid : Prop := Claim7.holds Tryz.pinned (.plain (OpenSpec.upto lockOpensSpec)) lockOpensUptoCard

/-- THE SECOND FORM's CARD OF 'sorteslaw11.LockHashes'. -/
def lockHashesUptoCard : Claim7 := { stood := { row := lockHashesUptoRow, standIns := [], harness := (true, "1ab8e76a6046fa4c702f5b1fb76317d5e3d8153521582f36571cf7c4054d31f8"), looks := true }, kinds := [], alts := [], laidByText := true, laidKinds := [.data, .data, .data, .data, .data, .data, .pinned], laidTests := true, laidLooks := .later }
def LockHashesUptoCardSaid : Prop := Claim7.holds Tryz.pinned (.plain (OpenSpec.upto lockHashesSpec)) lockHashesUptoCard

/-- THE SECOND FORM's CARD OF 'sorteslaw11.LockOrder'. -/
def lockOrderUptoCard : Claim7 := { stood := { row := lockOrderUptoRow, standIns := [], harness := (true, "1ab8e76a6046fa4c702f5b1fb76317d5e3d8153521582f36571cf7c4054d31f8"), looks := true }, kinds := [], alts := [], laidByText := true, laidKinds := [.data, .data, .data, .data, .data, .data, .pinned], laidTests := true, laidLooks := .later }
def LockOrderUptoCardSaid : Prop := Claim7.holds Tryz.pinned (.plain (OpenSpec.upto lockOrderSpec)) lockOrderUptoCard

/-- THE SECOND FORM's CARD OF 'sorteslaw11.LockInputs'. -/
def lockInputsUptoCard : Claim7 := { stood := { row := lockInputsUptoRow, standIns := [], harness := (true, "1ab8e76a6046fa4c702f5b1fb76317d5e3d8153521582f36571cf7c4054d31f8"), looks := true }, kinds := [], alts := [], laidByText := true, laidKinds := [.data, .data, .data, .data, .data, .data, .pinned], laidTests := true, laidLooks := .later }
def LockInputsUptoCardSaid : Prop := Claim7.holds Tryz.pinned (.plain (OpenSpec.upto lockInputsSpec)) lockInputsUptoCard

/-- THE SECOND FORM's CARD OF 'sorteslaw11.LockTexts'. -/
def lockTextsUptoCard : Claim7 := { stood := { row := lockTextsUptoRow, standIns := [], harness := (true, "1ab8e76a6046fa4c702f5b1fb76317d5e3d8153521582f36571cf7c4054d31f8"), looks := true }, kinds := [], alts := [], laidByText := true, laidKinds := [.data, .data, .data, .data, .sentinel, .sentinel, .data, .data, .pinned], laidTests := true, laidLooks := .later }
def LockTextsUptoCardSaid : Prop := Claim7.holds Tryz.pinned (.plain (OpenSpec.upto lockTextsSpec)) lockTextsUptoCard
end Rows
end Go.Proofs.YtebgmlbbilcbbaaGreatDoor
