/-
  DERIVED. GIVEN WITH THE SEED: THE CARDS: each row of YtkpinmejfdnhbaaGreatDoorRows.lean that lists a variable, with what it lists TIED to the program's text (the seventh form; the later family's looks); each row that meets fmt, with fmt's text TOLD by the authors' own Lean function (tested against real Go, not proved from fmt's source: count such statements apart). THE CARD IS WHAT COUNTS. Prove the row's statement (the work); the ties are given (YtkpinmejfdnhbaaGreatDoorTie.lean); close each card by the builder's one call (the guide's Derived/Test/ToyasCard.lean, 'card_holds'). Laid BY PROGRAM, IN A SANDBOX (cutbox-door.mjs). By AI agents, Wed Nov 11 2026. No macro, syntax, notation, axiom, sorry.
-/
import Derived.Test.YtkpinmejfdnhbaaGreatDoorRows
import GoSem.ClaimSeven
namespace Go.Proofs.YtkpinmejfdnhbaaGreatDoor
namespace Rows

/-- THE TIED CARD OF 'sorteslaw32.LightRoutes'. -/
def lightRoutesCard : Claim7 := { stood := { row := lightRoutesRow, standIns := [], harness := (true, "9285ef7a90cb69bb6ebc230b00a218af5c75f6645cdfb27c0f696852b781f676"), looks := false }, kinds := [], alts := [], laidByText := true, laidKinds := [.data, .data, .data, .data, .data], laidTests := true, laidLooks := .later }
def LightRoutesCardSaid : Prop := Claim7.holds Tryz.pinned (.plain (OpenSpec.ofChange lightRoutesSpec)) lightRoutesCard

/-- THE TIED CARD OF 'sorteslaw32.LightLinks'. -/
def lightLinksCard : Claim7 := { stood := { row := lightLinksRow, standIns := [], harness := (true, "9285ef7a90cb69bb6ebc230b00a218af5c75f6645cdfb27c0f696852b781f676"), looks := false }, kinds := [], alts := [], laidByText := true, laidKinds := [.data, .data, .data, .data, .data], laidTests := true, laidLooks := .later }
def LightLinksCardSaid : Prop := Claim7.holds Tryz.pinned (.plain (OpenSpec.ofChange lightLinksSpec)) lightLinksCard

/-- THE TIED CARD OF 'sorteslaw32.LightGoes'. -/
def lightGoesCard : Claim7 := { stood := { row := lightGoesRow, standIns := [], harness := (true, "9285ef7a90cb69bb6ebc230b00a218af5c75f6645cdfb27c0f696852b781f676"), looks := false }, kinds := [], alts := [], laidByText := true, laidKinds := [.data, .data, .data, .data, .data], laidTests := true, laidLooks := .later }
def LightGoesCardSaid : Prop := Claim7.holds Tryz.pinned (.plain (OpenSpec.ofChange lightGoesSpec)) lightGoesCard

/-- THE TIED CARD OF 'sorteslaw32.LightFew'. -/
def lightFewCard : Claim7 := { stood := { row := lightFewRow, standIns := [], harness := (true, "9285ef7a90cb69bb6ebc230b00a218af5c75f6645cdfb27c0f696852b781f676"), looks := false }, kinds := [], alts := [], laidByText := true, laidKinds := [.data, .data, .data, .data, .data], laidTests := true, laidLooks := .later }
def LightFewCardSaid : Prop := Claim7.holds Tryz.pinned (.plain (OpenSpec.ofChange lightFewSpec)) lightFewCard

/-- THE TIED CARD OF 'sorteslaw32.LightReceipts'. -/
def lightReceiptsCard : Claim7 := { stood := { row := lightReceiptsRow, standIns := [], harness := (true, "9285ef7a90cb69bb6ebc230b00a218af5c75f6645cdfb27c0f696852b781f676"), looks := false }, kinds := [], alts := [], laidByText := true, laidKinds := [.data, .data, .data, .data, .data], laidTests := true, laidLooks := .later }
def LightReceiptsCardSaid : Prop := Claim7.holds Tryz.pinned (.plain (OpenSpec.ofChange lightReceiptsSpec)) lightReceiptsCard

/-- THE TIED CARD OF 'sorteslaw32.LightNil'. -/
def lightNilCard : Claim7 := { stood := { row := lightNilRow, standIns := [], harness := (true, "9285ef7a90cb69bb6ebc230b00a218af5c75f6645cdfb27c0f696852b781f676"), looks := false }, kinds := [], alts := [], laidByText := true, laidKinds := [.data, .data, .data, .data, .data, .data, .pinned], laidTests := true, laidLooks := .later }
def LightNilCardSaid : Prop := Claim7.holds Tryz.pinned (.plain (OpenSpec.ofChange lightNilSpec)) lightNilCard

/-- THE SECOND FORM's CARD OF 'sorteslaw32.LightRoutes'. -/
def lightRoutesUptoCard : Claim7 := { stood := { row := lightRoutesUptoRow, standIns := [], harness := (true, "9285ef7a90cb69bb6ebc230b00a218af5c75f6645cdfb27c0f696852b781f676"), looks := false }, kinds := [], alts := [], laidByText := true, laidKinds := [.data, .data, .data, .data, .data], laidTests := true, laidLooks := .later }
def LightRoutesUptoCardSaid : Prop := Claim7.holds Tryz.pinned (.plain (OpenSpec.upto lightRoutesSpec)) lightRoutesUptoCard

/-- THE SECOND FORM's CARD OF 'sorteslaw32.LightLinks'. -/
def lightLinksUptoCard : Claim7 := { stood := { row := lightLinksUptoRow, standIns := [], harness := (true, "9285ef7a90cb69bb6ebc230b00a218af5c75f6645cdfb27c0f696852b781f676"), looks := false }, kinds := [], alts := [], laidByText := true, laidKinds := [.data, .data, .data, .data, .data], laidTests := true, laidLooks := .later }
def LightLinksUptoCardSaid : Prop := Claim7.holds Tryz.pinned (.plain (OpenSpec.upto lightLinksSpec)) lightLinksUptoCard

/-- THE SECOND FORM's CARD OF 'sorteslaw32.LightGoes'. -/
def lightGoesUptoCard : Claim7 := { stood := { row := lightGoesUptoRow, standIns := [], harness := (true, "9285ef7a90cb69bb6ebc230b00a218af5c75f6645cdfb27c0f696852b781f676"), looks := false }, kinds := [], alts := [], laidByText := true, laidKinds := [.data, .data, .data, .data, .data], laidTests := true, laidLooks := .later }
def LightGoesUptoCardSaid : Prop := Claim7.holds Tryz.pinned (.plain (OpenSpec.upto lightGoesSpec)) lightGoesUptoCard

/-- THE SECOND FORM's CARD OF 'sorteslaw32.LightFew'. -/
def lightFewUptoCard : Claim7 := { stood := { row := lightFewUptoRow, standIns := [], harness := (true, "9285ef7a90cb69bb6ebc230b00a218af5c75f6645cdfb27c0f696852b781f676"), looks := false }, kinds := [], alts := [], laidByText := true, laidKinds := [.data, .data, .data, .data, .data], laidTests := true, laidLooks := .later }
def LightFewUptoCardSaid : Prop := Claim7.holds Tryz.pinned (.plain (OpenSpec.upto lightFewSpec)) lightFewUptoCard

/-- THE SECOND FORM's CARD OF 'sorteslaw32.LightReceipts'. -/
def lightReceiptsUptoCard : Claim7 := { stood := { row := lightReceiptsUptoRow, standIns := [], harness := (true, "9285ef7a90cb69bb6ebc230b00a218af5c75f6645cdfb27c0f696852b781f676"), looks := false }, kinds := [], alts := [], laidByText := true, laidKinds := [.data, .data, .data, .data, .data], laidTests := true, laidLooks := .later }
def LightReceiptsUptoCardSaid : Prop := Claim7.holds Tryz.pinned (.plain (OpenSpec.upto lightReceiptsSpec)) lightReceiptsUptoCard

/-- THE SECOND FORM's CARD OF 'sorteslaw32.LightNil'. -/
def lightNilUptoCard : Claim7 := { stood := { row := lightNilUptoRow, standIns := [], harness := (true, "9285ef7a90cb69bb6ebc230b00a218af5c75f6645cdfb27c0f696852b781f676"), looks := false }, kinds := [], alts := [], laidByText := true, laidKinds := [.data, .data, .data, .data, .data, .data, .pinned], laidTests := true, laidLooks := .later }
def LightNilUptoCardSaid : Prop := Claim7.holds Tryz.pinned (.plain (OpenSpec.upto lightNilSpec)) lightNilUptoCard
end Rows
end Go.Proofs.YtkpinmejfdnhbaaGreatDoor
