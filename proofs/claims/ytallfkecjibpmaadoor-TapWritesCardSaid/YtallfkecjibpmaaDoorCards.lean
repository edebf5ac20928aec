/-
  DERIVED. GIVEN WITH THE SEED: THE CARDS: each row of YtallfkecjibpmaaDoorRows.lean that lists a variable, with what it lists TIED to the program's text (the seventh form; the later family's looks); each row that meets fmt, with fmt's text TOLD by the authors' own Lean function (tested against real Go, not proved from fmt's source: count such statements apart). THE CARD IS WHAT COUNTS. Prove the row's statement (the work); the ties are given (YtallfkecjibpmaaDoorTie.lean); close each card by the builder's one call (the guide's Derived/Test/ToyasCard.lean, 'card_holds'). Laid BY PROGRAM, IN A SANDBOX (cutbox-door.mjs). By AI agents, Wed Nov 11 2026. No macro, syntax, notation, axiom, sorry.
-/
import Derived.Test.YtallfkecjibpmaaDoorRows
import GoSem.ClaimSeven
namespace Go.Proofs.YtallfkecjibpmaaDoor
namespace Rows

/-- THE TIED CARD OF 'motleylaw27.TapDays'. -/
def tapDaysCard : Claim7 := { stood := { row := tapDaysRow, standIns := [], harness := (true, "abd4d8e25d5a9f0c618252e5f831cda1db040089d4b10df557b45a1a481b4f4f"), looks := true }, kinds := [], alts := [], laidByText := true, laidKinds := [.data, .data, .data, .data, .pinned], laidTests := true, laidLooks := .later }
def TapDaysCardSaid : Prop := Claim7.holds Tryd.pinned (.plain (OpenSpec.ofChange tapDaysSpec)) tapDaysCard

/-- THE TIED CARD OF 'motleylaw27.TapEasters'. -/
def tapEastersCard : Claim7 := { stood := { row := tapEastersRow, standIns := [], harness := (true, "abd4d8e25d5a9f0c618252e5f831cda1db040089d4b10df557b45a1a481b4f4f"), looks := true }, kinds := [], alts := [], laidByText := true, laidKinds := [.data, .data, .data, .data, .pinned], laidTests := true, laidLooks := .later }
def TapEastersCardSaid : Prop := Claim7.holds Tryd.pinned (.plain (OpenSpec.ofChange tapEastersSpec)) tapEastersCard

/-- THE TIED CARD OF 'motleylaw27.TapDates'. -/
def tapDatesCard : Claim7 := { stood := { row := tapDatesRow, standIns := [], harness := (true, "abd4d8e25d5a9f0c618252e5f831cda1db040089d4b10df557b45a1a481b4f4f"), looks := true }, kinds := [], alts := [], laidByText := true, laidKinds := [.data, .data, .data, .data, .pinned], laidTests := true, laidLooks := .later }
def TapDatesCardSaid : Prop := Claim7.holds Tryd.pinned (.plain (OpenSpec.ofChange tapDatesSpec)) tapDatesCard

/-- THE TIED CARD OF 'motleylaw27.TapFormats'. -/
def tapFormatsCard : Claim7 := { stood := { row := tapFormatsRow, standIns := [], harness := (true, "abd4d8e25d5a9f0c618252e5f831cda1db040089d4b10df557b45a1a481b4f4f"), looks := true }, kinds := [], alts := [], laidByText := true, laidKinds := [.data, .data, .data, .data, .pinned], laidTests := true, laidLooks := .later }
def TapFormatsCardSaid : Prop := Claim7.holds Tryd.pinned (.plain (OpenSpec.ofChange tapFormatsSpec)) tapFormatsCard

/-- THE TIED CARD OF 'motleylaw27.TapParses'. -/
def tapParsesCard : Claim7 := { stood := { row := tapParsesRow, standIns := [], harness := (true, "abd4d8e25d5a9f0c618252e5f831cda1db040089d4b10df557b45a1a481b4f4f"), looks := true }, kinds := [], alts := [], laidByText := true, laidKinds := [.data, .data, .data, .data, .sentinel, .sentinel, .pinned], laidTests := true, laidLooks := .later }
def TapParsesCardSaid : Prop := Claim7.holds Tryd.pinned (.plain (OpenSpec.ofChange tapParsesSpec)) tapParsesCard

/-- THE TIED CARD OF 'motleylaw27.TapSpans'. -/
def tapSpansCard : Claim7 := { stood := { row := tapSpansRow, standIns := [], harness := (true, "abd4d8e25d5a9f0c618252e5f831cda1db040089d4b10df557b45a1a481b4f4f"), looks := true }, kinds := [], alts := [], laidByText := true, laidKinds := [.data, .data, .data, .data, .sentinel, .sentinel, .pinned], laidTests := true, laidLooks := .later }
def TapSpansCardSaid : Prop := Claim7.holds Tryd.pinned (.plain (OpenSpec.ofChange tapSpansSpec)) tapSpansCard

/-- THE TIED CARD OF 'motleylaw27.TapWrites'. -/
def tapWritesCard : Claim7 := { stood := { row := tapWritesRow, standIns := [], harness := (true, "abd4d8e25d5a9f0c618252e5f831cda1db040089d4b10df557b45a1a481b4f4f"), looks := true }, kinds := [], alts := [], laidByText := true, laidKinds := [.data, .data, .data, .data, .sentinel, .sentinel, .pinned], laidTests := true, laidLooks := .later }
def TapWritesCardSaid : Prop := Claim7.holds Tryd.pinned (.plain (OpenSpec.ofChange tapWritesSpec)) tapWritesCard

/-- THE SECOND FORM's CARD OF 'motleylaw27.TapDays'. -/
def tapDaysUptoCard : Claim7 := { stood := { row := tapDaysUptoRow, standIns := [], harness := (true, "abd4d8e25d5a9f0c618252e5f831cda1db040089d4b10df557b45a1a481b4f4f"), looks := true }, kinds := [], alts := [], laidByText := true, laidKinds := [.data, .data, .data, .data, .pinned], laidTests := true, laidLooks := .later }
def TapDaysUptoCardSaid : Prop := Claim7.holds Tryd.pinned (.plain (OpenSpec.upto tapDaysSpec)) tapDaysUptoCard

/-- THE SECOND FORM's CARD OF 'motleylaw27.TapEasters'. -/
def tapEastersUptoCard : Claim7 := { stood := { row := tapEastersUptoRow, standIns := [], harness := (true, "abd4d8e25d5a9f0c618252e5f831cda1db040089d4b10df557b45a1a481b4f4f"), looks := true }, kinds := [], alts := [], laidByText := true, laidKinds := [.data, .data, .data, .data, .pinned], laidTests := true, laidLooks := .later }
def TapEastersUptoCardSaid : Prop := Claim7.holds Tryd.pinned (.plain (OpenSpec.upto tapEastersSpec)) tapEastersUptoCard

/-- THE SECOND FORM's CARD OF 'motleylaw27.TapDates'. -/
def tapDatesUptoCard : Claim7 := { stood := { row := tapDatesUptoRow, standIns := [], harness := (true, "abd4d8e25d5a9f0c618252e5f831cda1db040089d4b10df557b45a1a481b4f4f"), looks := true }, kinds := [], alts := [], laidByText := true, laidKinds := [.data, .data, .data, .data, .pinned], laidTests := true, laidLooks := .later }
def TapDatesUptoCardSaid : Prop := Claim7.holds Tryd.pinned (.plain (OpenSpec.upto tapDatesSpec)) tapDatesUptoCard

/-- THE SECOND FORM's CARD OF 'motleylaw27.TapFormats'. -/
def tapFormatsUptoCard : Claim7 := { stood := { row := tapFormatsUptoRow, standIns := [], harness := (true, "abd4d8e25d5a9f0c618252e5f831cda1db040089d4b10df557b45a1a481b4f4f"), looks := true }, kinds := [], alts := [], laidByText := true, laidKinds := [.data, .data, .data, .data, .pinned], laidTests := true, laidLooks := .later }
def TapFormatsUptoCardSaid : Prop := Claim7.holds Tryd.pinned (.plain (OpenSpec.upto tapFormatsSpec)) tapFormatsUptoCard

/-- THE SECOND FORM's CARD OF 'motleylaw27.TapParses'. -/
def tapParsesUptoCard : Claim7 := { stood := { row := tapParsesUptoRow, standIns := [], harness := (true, "abd4d8e25d5a9f0c618252e5f831cda1db040089d4b10df557b45a1a481b4f4f"), looks := true }, kinds := [], alts := [], laidByText := true, laidKinds := [.data, .data, .data, .data, .sentinel, .sentinel, .pinned], laidTests := true, laidLooks := .later }
def TapParsesUptoCardSaid : Prop := Claim7.holds Tryd.pinned (.plain (OpenSpec.upto tapParsesSpec)) tapParsesUptoCard

/-- THE SECOND FORM's CARD OF 'motleylaw27.TapSpans'. -/
def tapSpansUptoCard : Claim7 := { stood := { row := tapSpansUptoRow, standIns := [], harness := (true, "abd4d8e25d5a9f0c618252e5f831cda1db040089d4b10df557b45a1a481b4f4f"), looks := true }, kinds := [], alts := [], laidByText := true, laidKinds := [.data, .data, .data, .data, .sentinel, .sentinel, .pinned], laidTests := true, laidLooks := .later }
def TapSpansUptoCardSaid : Prop := Claim7.holds Tryd.pinned (.plain (OpenSpec.upto tapSpansSpec)) tapSpansUptoCard

/-- THE SECOND FORM's CARD OF 'motleylaw27.TapWrites'. -/
def tapWritesUptoCard : Claim7 := { stood := { row := tapWritesUptoRow, standIns := [], harness := (true, "abd4d8e25d5a9f0c618252e5f831cda1db040089d4b10df557b45a1a481b4f4f"), looks := true }, kinds := [], alts := [], laidByText := true, laidKinds := [.data, .data, .data, .data, .sentinel, .sentinel, .pinned], laidTests := true, laidLooks := .later }
def TapWritesUptoCardSaid : Prop := Claim7.holds Tryd.pinned (.plain (OpenSpec.upto tapWritesSpec)) tapWritesUptoCard
end Rows
end Go.Proofs.YtallfkecjibpmaaDoor
